/- Texts of the claim. -/
import Derived.Deep.AppendLies
import Derived.Deep.RegionLaw
import Derived.Maps.AppendAt
import Derived.Maps.OwnOps
import Derived.Test.YtfekpkelmliejaaGreatDoorQSpecHead
import Derived.Test.YtfekpkelmliejaaGreatDoorQZ05
namespace Go.Proofs.YtfekpkelmliejaaGreatDoor
open Go.RowKit Go.Maps
set_option linter.unusedSimpArgs false
set_option linter.unusedVariables false
set_option maxRecDepth 100000
set_option maxHeartbeats 8000000
def TreeB (n₀ S M : Nat) (v : Value) (b : Nat) : Prop := n₀ ≤ b ∧ b ≠ S ∧ b ≠ M ∧ some b ≠ v.ownBlock
def RowIs (w : World) (n₀ S M : Nat) (v : Value) (rs : List RuleS) : Prop := ∃ cs, w.ownsRow n₀ 120 9 v rs.length cs ∧ RulesAre w (TreeB n₀ S M v) rs cs
def LineK (S M : Nat) (v : Value) (w w' : World) : Prop := w.heap.size ≤ w'.heap.size ∧ ∀ b, b < w.heap.size → b ≠ S → b ≠ M → some b ≠ v.ownBlock → w'.heap[b]? = w.heap[b]?
def LineOut (n₀ S M : Nat) (v : Value) (rs : List RuleS) (r : Except Wrong RuleS) (w : World) (e : Ending) (w' : World) : Prop :=
 match r with
 | .error (k, q) => e = .returned (.agg #[.int .i64 k, .int .i64 q]) ∧ Below w.heap.size w w'
 | .ok r => e = .returned (.agg #[.int .i64 0, .int .i64 0]) ∧ Below n₀ w w' ∧ LineK S M v w w' ∧ ∃ A' cap', RdrAt w' S A' (rs.length + 1) cap' M ∧ RowIs w' n₀ S M (.slice A' (rs.length + 1) cap') (rs ++ [r]) ∧ NamesAt w' M (rs ++ [r])
theorem BytesAt.tail {w : World} {B b o : Nat} {bs : List Nat} (h : BytesAt w B (some ⟨b, o, none⟩) bs) (i : Nat) : BytesAt w B (some ⟨b, o + i, none⟩) (bs.drop i) := by
 refine ⟨fun x hx => h.1 x (List.mem_of_mem_drop hx), Nat.le_trans (by simp) h.2.1, fun hp => ?_⟩
 rw [List.length_drop] at hp
 obtain ⟨b', o', e, hb, hc⟩ := h.2.2 (by omega)
 cases e
 refine ⟨b, o + i, rfl, hb, fun j hj => ?_⟩
 rw [List.length_drop] at hj
 rw [byteAt_drop, Nat.add_assoc]
 exact hc (i + j) (by omega)
theorem BytesAt.void {w : World} {B : Nat} {A : Option Addr} {bs : List Nat} (h : bs.length = 0) : BytesAt w B A bs := by
 have : bs = [] := List.length_eq_zero_iff.1 h
 subst this
 exact ⟨fun x hx => (by cases hx), by simp, fun hp => (by simp at hp)⟩
theorem line_head (n₀ S M B : Nat) (Ar A : Option Addr) (capr cap : Nat) (rs : List RuleS) (bs : List Nat) (w : World) (hS : RdrAt w S Ar rs.length capr M) (hM : NamesAt w M rs) (hA : BytesAt w B A bs) (hB : B ≤ w.heap.size) (h64 : rs.length ≤ 64) (hcap : bs.length ≤ cap) {k q : Int} (hk : k ≠ 0) (hh : headS rs bs = .error (k, q)) :
  Calls Tryz.prog 96 #[.pointer (some ⟨S, 0, none⟩), .slice A bs.length cap] w (LineOut n₀ S M (.slice Ar rs.length capr) rs (lineS rs bs) w) := by
 have HV := Lib.hid (show lineS rs bs = .error (k, q) by unfold lineS; rw [hh])
 have hb1 : Below w.heap.size w (w.alloc (.cells #[.int .i64 0, .int .i64 0] 75)) := (Below.refl _ _).alloc (Nat.le_refl _) _
 have h1 := head_go S M B Ar A capr cap rs bs _ (Blk.alloc hS (.cells #[.int .i64 0, .int .i64 0] 75)) (hM.kept (World.grownBy_alloc w (.cells #[.int .i64 0, .int .i64 0] 75) none) (by simp)) (hA.below ((Below.refl B w).alloc hB _)) (by simp; omega) h64 hcap
 rw [hh] at h1
 have H1 := Lib.hid h1
 have HB1 := Lib.hid hb1
 have HG1 := Lib.hid (Blk.new w 75 #[.int .i64 0, .int .i64 0])
 have hd : (k != 0) = true := by rw [bne_iff_ne]; exact hk
 have hsz : w.heap.size < (w.alloc (.cells #[.int .i64 0, .int .i64 0] 75)).heap.size := by simp
 clear hS hM hA hh h1 hb1 hk
 go_enter Tryz.func96, Tryz.ntmps96
 go_wp2_with fail
 refine H1.out.mono ?_
 rintro e w2 ⟨rfl, hb2⟩
 have hG2 := HG1.out.below hb2 HG1.out.lt
 have HB2 := Lib.hid (HB1.out.trans (hb2.mono HB1.out.size))
 obtain ⟨b0, b1, f0, f1⟩ := hG2.c2
 have HG2 := Lib.hid hG2
 have hlt1 : w.heap.size < w2.heap.size := hG2.lt
 have hne1 : w.heap.size ≠ w2.heap.size := by omega
 clear hb2 hG2 H1 HB1 HG1
 dsimp only
 go_wp2
 go_light
 refine bodyPost_ret (ret_badv Tryz.results96 rfl ((HG2.out.set2).alloc _)) rfl ?_
 unfold LineOut
 rw [HV.out]
 exact ⟨rfl, (below_set2 HB2.out (Nat.le_refl _) _ _).alloc (by have := HB2.out.size; simpa [World.setCell] using this) _⟩
theorem line_text (n₀ S M B : Nat) (Ar : Option Addr) (b o : Nat) (capr cap : Nat) (rs : List RuleS) (bs : List Nat) (w : World) (hS : RdrAt w S Ar rs.length capr M) (hM : NamesAt w M rs) (hA : BytesAt w B (some ⟨b, o, none⟩) bs) (hB : B ≤ w.heap.size) (h64 : rs.length ≤ 64) (hcap : bs.length ≤ cap) {n : List Nat} (hn : n.length < bs.length) (hh : headS rs bs = .ok n) {k q : Int} (hx : parseS (bs.drop (n.length + 1)) = .error (k, q)) :
  Calls Tryz.prog 96 #[.pointer (some ⟨S, 0, none⟩), .slice (some ⟨b, o, none⟩) bs.length cap] w (LineOut n₀ S M (.slice Ar rs.length capr) rs (lineS rs bs) w) := by
 have HV := Lib.hid (show lineS rs bs = .error (k, q + n.length + 1) by unfold lineS; rw [hh]; dsimp only; rw [hx])
 have hb1 : Below w.heap.size w (w.alloc (.cells #[.int .i64 0, .int .i64 0] 75)) := (Below.refl _ _).alloc (Nat.le_refl _) _
 have h1 := head_go S M B Ar (some ⟨b, o, none⟩) capr cap rs bs _ (Blk.alloc hS (.cells #[.int .i64 0, .int .i64 0] 75)) (hM.kept (World.grownBy_alloc w (.cells #[.int .i64 0, .int .i64 0] 75) none) (by simp)) (hA.below ((Below.refl B w).alloc hB _)) (by simp; omega) h64 hcap
 rw [hh] at h1
 have H1 := Lib.hid h1
 have HB1 := Lib.hid hb1
 have HG1 := Lib.hid (Blk.new w 75 #[.int .i64 0, .int .i64 0])
 have hbsub : ∀ x ∈ bs.drop (n.length + 1), x < 256 := fun x hx => hA.1 x (List.mem_of_mem_drop hx)
 have hk : (k != 0) = true := by rw [bne_iff_ne]; exact parseS_kindK hbsub hx
 have hq := parseS_at hbsub hx
 have hlen := hA.2.1
 have hdl : (bs.drop (n.length + 1)).length = bs.length - (n.length + 1) := by simp
 rw [hdl] at hq
 have HA := Lib.hid hA
 have HX := Lib.hid hx
 have hd0 : ((0 : Int) != 0) = false := by decide
 have hsz : w.heap.size < (w.alloc (.cells #[.int .i64 0, .int .i64 0] 75)).heap.size := by simp
 have Hdl := Lib.hid hdl
 clear hS hM hA hh h1 hb1 hbsub hx hdl
 go_enter Tryz.func96, Tryz.ntmps96
 go_wp2_with fail
 refine H1.out.mono ?_
 rintro e w2 ⟨rfl, hb2⟩
 have hG2 := HG1.out.below hb2 HG1.out.lt
 have HB2 := Lib.hid (HB1.out.trans (hb2.mono HB1.out.size))
 have hlt1 : w.heap.size < w2.heap.size := hG2.lt
 have hne1 : w.heap.size ≠ w2.heap.size := by omega
 have hG6 := Blk.new w2 75 #[.int .i64 0, .int .i64 0]
 have hb3 : Below w2.heap.size w2 (w2.alloc (.cells #[.int .i64 0, .int .i64 0] 75)) := (Below.refl _ _).alloc (Nat.le_refl _) _
 have hP := fun (A' : Option Addr) (hA' : BytesAt (w2.alloc (.cells #[.int .i64 0, .int .i64 0] 75)) (w2.alloc (.cells #[.int .i64 0, .int .i64 0] 75)).heap.size A' (bs.drop (n.length + 1))) => text_go07 A' (cap - (n.length + 1)) (bs.drop (n.length + 1)) (w2.alloc (.cells #[.int .i64 0, .int .i64 0] 75)) hA' (by rw [Hdl.out]; omega)
 rw [HX.out, Hdl.out] at hP
 have HB3 := Lib.hid (HB2.out.trans (hb3.mono HB2.out.size))
 have hA3 : BytesAt (w2.alloc (.cells #[.int .i64 0, .int .i64 0] 75)) (w2.alloc (.cells #[.int .i64 0, .int .i64 0] 75)).heap.size (some ⟨b, o, none⟩) bs := (HA.out.below (HB3.out.mono hB)).more (by have := HB3.out.size; omega)
 have HA3 := Lib.hid hA3
 have HP := Lib.hid hP
 have HG2 := Lib.hid hG2
 have HG6 := Lib.hid hG6
 have hst : (strOf n).size = n.length := strOf_size n
 have HST := Lib.hid hst
 clear hb2 hG2 H1 HB1 HG1 hb3 hA3 hG6 hP HA hst
 dsimp only
 by_cases hc : cap = n.length + 1
 ·have he : bs.length = n.length + 1 := by omega
  subst hc
  rw [he] at HP
  simp only [Nat.sub_self] at HP
  go_wp2_with fail
  refine (HP.out _ (BytesAt.void (by rw [Hdl.out]; omega))).mono ?_
  rintro e w4 ⟨rfl, hb4⟩
  have hG4 := HG2.out.alloc (.cells #[.int .i64 0, .int .i64 0] 75) |>.below hb4 (by simp; omega)
  have hF4 := HG6.out.below hb4 HG6.out.lt
  have HB4 := Lib.hid (HB3.out.trans (hb4.mono HB3.out.size))
  have hlt2 : w2.heap.size < w4.heap.size := hF4.lt
  have hlt3 : w.heap.size < w4.heap.size := by omega
  have hne2 : w2.heap.size ≠ w4.heap.size := by omega
  have hne3 : w.heap.size ≠ w4.heap.size := by omega
  obtain ⟨b0, b1, f0, f1⟩ := hG4.c2
  obtain ⟨b2, b3, f2, f3⟩ := hF4.c2
  have hB5 : Below w.heap.size w (((w4.setCell ⟨w2.heap.size, 0, none⟩ (.int .i64 k)).setCell ⟨w2.heap.size, 1, none⟩ (.int .i64 q)).alloc (.cells #[.int .i64 0, .int .u64 0, .int .u64 0, .int .u64 0, .int .u64 0, .slice none 0 0, .int .i64 0, .int .i64 0] 28)) := (below_set2 HB4.out (by omega) _ _).alloc (by have := HB4.out.size; simpa [World.setCell] using this) _
  have hG5 := (hG4.far2 (g' := w2.heap.size) (by omega) (.int .i64 k) (.int .i64 q)).alloc (.cells #[.int .i64 0, .int .u64 0, .int .u64 0, .int .u64 0, .int .u64 0, .slice none 0 0, .int .i64 0, .int .i64 0] 28)
  have hF5 := (hF4.set2 (a' := .int .i64 k) (b' := .int .i64 q)).alloc (.cells #[.int .i64 0, .int .u64 0, .int .u64 0, .int .u64 0, .int .u64 0, .slice none 0 0, .int .i64 0, .int .i64 0] 28)
  have HX5 := Lib.hid (show _ ∧ _ ∧ _ from ⟨hB5, hG5, hF5⟩)
  clear hb4 hG4 hF4 HP HG2 HG6 hB5 hG5 hF5
  unfold zeroN
  dsimp only
  go_upto_region 5 with (fail)
  clear b0 b1 b2 b3 f0 f1 f2 f3
  generalize hW5 : ((w4.setCell ⟨w2.heap.size, 0, none⟩ (.int .i64 k)).setCell ⟨w2.heap.size, 1, none⟩ (.int .i64 q)).alloc (.cells #[.int .i64 0, .int .u64 0, .int .u64 0, .int .u64 0, .int .u64 0, .slice none 0 0, .int .i64 0, .int .i64 0] 28) = W5 at *
  clear hW5
  obtain ⟨b0, b1, f0, f1⟩ := HX5.out.2.1.c2
  obtain ⟨b2, b3, f2, f3⟩ := HX5.out.2.2.c2
  have hne5 : w2.heap.size ≠ w.heap.size := by omega
  have hst := HST.out
  go_wp2
  go_light
  refine bodyPost_ret (ret_badv Tryz.results96 rfl (Blk.set2 (Blk.far (HX5.out.2.1) (p := ⟨w2.heap.size, 1, none⟩) (by simp; omega) _))) rfl ?_
  unfold LineOut
  rw [HV.out]
  refine ⟨?_, below_set2 (HX5.out.1.setCell (p := ⟨w2.heap.size, 1, none⟩) (by simp; omega) _) (Nat.le_refl _) _ _⟩
  rw [← Int.add_assoc]
 ·go_wp2_with fail
  refine (HP.out _ (HA3.out.tail _)).mono ?_
  rintro e w4 ⟨rfl, hb4⟩
  have hG4 := HG2.out.alloc (.cells #[.int .i64 0, .int .i64 0] 75) |>.below hb4 (by simp; omega)
  have hF4 := HG6.out.below hb4 HG6.out.lt
  have HB4 := Lib.hid (HB3.out.trans (hb4.mono HB3.out.size))
  have hlt2 : w2.heap.size < w4.heap.size := hF4.lt
  have hlt3 : w.heap.size < w4.heap.size := by omega
  have hne2 : w2.heap.size ≠ w4.heap.size := by omega
  have hne3 : w.heap.size ≠ w4.heap.size := by omega
  obtain ⟨b0, b1, f0, f1⟩ := hG4.c2
  obtain ⟨b2, b3, f2, f3⟩ := hF4.c2
  have hB5 : Below w.heap.size w (((w4.setCell ⟨w2.heap.size, 0, none⟩ (.int .i64 k)).setCell ⟨w2.heap.size, 1, none⟩ (.int .i64 q)).alloc (.cells #[.int .i64 0, .int .u64 0, .int .u64 0, .int .u64 0, .int .u64 0, .slice none 0 0, .int .i64 0, .int .i64 0] 28)) := (below_set2 HB4.out (by omega) _ _).alloc (by have := HB4.out.size; simpa [World.setCell] using this) _
  have hG5 := (hG4.far2 (g' := w2.heap.size) (by omega) (.int .i64 k) (.int .i64 q)).alloc (.cells #[.int .i64 0, .int .u64 0, .int .u64 0, .int .u64 0, .int .u64 0, .slice none 0 0, .int .i64 0, .int .i64 0] 28)
  have hF5 := (hF4.set2 (a' := .int .i64 k) (b' := .int .i64 q)).alloc (.cells #[.int .i64 0, .int .u64 0, .int .u64 0, .int .u64 0, .int .u64 0, .slice none 0 0, .int .i64 0, .int .i64 0] 28)
  have HX5 := Lib.hid (show _ ∧ _ ∧ _ from ⟨hB5, hG5, hF5⟩)
  clear hb4 hG4 hF4 HP HG2 HG6 hB5 hG5 hF5
  unfold zeroN
  dsimp only
  go_upto_region 5 with (fail)
  clear b0 b1 b2 b3 f0 f1 f2 f3
  generalize hW5 : ((w4.setCell ⟨w2.heap.size, 0, none⟩ (.int .i64 k)).setCell ⟨w2.heap.size, 1, none⟩ (.int .i64 q)).alloc (.cells #[.int .i64 0, .int .u64 0, .int .u64 0, .int .u64 0, .int .u64 0, .slice none 0 0, .int .i64 0, .int .i64 0] 28) = W5 at *
  clear hW5
  obtain ⟨b0, b1, f0, f1⟩ := HX5.out.2.1.c2
  obtain ⟨b2, b3, f2, f3⟩ := HX5.out.2.2.c2
  have hne5 : w2.heap.size ≠ w.heap.size := by omega
  have hst := HST.out
  go_wp2
  go_light
  refine bodyPost_ret (ret_badv Tryz.results96 rfl (Blk.set2 (Blk.far (HX5.out.2.1) (p := ⟨w2.heap.size, 1, none⟩) (by simp; omega) _))) rfl ?_
  unfold LineOut
  rw [HV.out]
  refine ⟨?_, below_set2 (HX5.out.1.setCell (p := ⟨w2.heap.size, 1, none⟩) (by simp; omega) _) (Nat.le_refl _) _ _⟩
  rw [← Int.add_assoc]
theorem info_rule : (Tryz.prog.info? 120).map (fun i => (i.zero, i.size, i.bytes)) = some (some (.agg #[.string (strOf []), .int .i64 0, .int .u64 0, .int .u64 0, .int .u64 0, .int .u64 0, .slice none 0 0, .int .i64 0, .int .i64 0]), 9, 96) := by kernel_rfl
theorem NamesAt.not_row {w : World} {M : Nat} {rs : List RuleS} (h : NamesAt w M rs) {base size k : Nat} {e : TypeId} {v : Value} {xs : List Value} (hr : w.ownsRow base e size v k xs) : some M ≠ v.ownBlock := by
 obtain ⟨_, D, ⟨es, clock, hm, _⟩, _⟩ := h
 rcases hr.2 with ⟨rfl, _⟩ | ⟨g, cap, cur, rfl, _, hg, _⟩
 ·simp [Value.ownBlock]
 ·intro e'
  obtain rfl : M = g := by simpa [Value.ownBlock] using e'
  rw [hm] at hg
  cases hg
theorem heap_past {w : World} {g b : Nat} (hg : b ≠ g) (hb : b < w.heap.size) (x y : Value) (ob : Obj) : (((w.setCell ⟨g, 0, none⟩ x).setCell ⟨g, 1, none⟩ y).alloc ob).heap[b]? = w.heap[b]? :=
 (Below.heap_alloc _ ob b (by simpa [World.setCell] using hb)).trans ((Below.heap_setCell _ _ y b hg).trans (Below.heap_setCell _ _ x b hg))
theorem RowIs.below {w w' : World} {n₀ S M : Nat} {v : Value} {rs : List RuleS} (h : RowIs w n₀ S M v rs) (hb : Below w.heap.size w w') : RowIs w' n₀ S M v rs := by
 obtain ⟨cs, h1, h2⟩ := h
 exact ⟨cs, own_below h1 hb, h2.below hb⟩
theorem line_end {n₀ S M : Nat} {Ar : Option Addr} {capr capx gg z2 z4 : Nat} {rs : List RuleS} {n : List Nat} {x : Nd} {B' : Option Addr} {cap' : Nat} {cs : List Value} {w W6 w1 : World} {ob : Obj} (hSM : S ≠ M) (hn₀ : n₀ ≤ S) (hn₁ : n₀ ≤ M) (hSl : S < w.heap.size) (hMl : M < w.heap.size) (hlt1 : w.heap.size < z2) {z5 : Nat} (hz5 : z5 ≤ W6.heap.size) (hz4 : z4 < z5)
  (hro : ∀ g, (Value.slice Ar rs.length capr).ownBlock = some g → g < w.heap.size) (hN6 : NamesAt W6 M (rs ++ [⟨n, x⟩])) (hT6 : TreesAt W6 (fun b => z2 < b ∧ b < z4) x.kids B') (hrs6 : RulesAre W6 (fun b => TreeB n₀ S M (.slice Ar rs.length capr) b ∧ b < w.heap.size) rs cs) (hB6 : Below n₀ w W6) (hK6 : ∀ b, b < w.heap.size → b ≠ M → W6.heap[b]? = w.heap[b]?)
  (hr6 : W6.ownsRow n₀ 120 9 (.slice Ar rs.length capr) rs.length cs) (hneM : some M ≠ (Value.slice Ar rs.length capr).ownBlock) (hc : x.kids.len ≤ cap') (hS1 : RdrAt w1 S Ar rs.length capr M) (hown1 : w1.ownsRow n₀ 120 9 (.slice (some ⟨gg, 0, none⟩) (rs.length + 1) capx) (rs.length + 1) (cs ++ ruleCell ⟨n, x⟩ B' cap'))
  (hgrow : (W6.alloc ob).drew.grownBy w1 (Value.slice Ar rs.length capr).ownBlock) (hat : (Value.slice Ar rs.length capr).ownBlock = some gg ∨ gg = W6.heap.size + 1) :
  LineOut n₀ S M (.slice Ar rs.length capr) rs (.ok ⟨n, x⟩) w (.returned (.agg #[.int .i64 0, .int .i64 0])) (((w1.setCell ⟨S, 0, none⟩ (.slice (some ⟨gg, 0, none⟩) (rs.length + 1) capx)).setCell ⟨w.heap.size, 0, none⟩ (.int .i64 0)).setCell ⟨w.heap.size, 1, none⟩ (.int .i64 0)) := by
 have hws := hB6.size
 have hown2 : w1.ownsRow n₀ 120 9 (.slice (some ⟨gg, 0, none⟩) (rs.length + 1) capx) (rs ++ [(⟨n, x⟩ : RuleS)]).length (cs ++ ruleCell ⟨n, x⟩ B' cap') := by rw [List.length_append]; exact hown1
 have hh : ∀ b, b ≠ S → b ≠ w.heap.size → (((w1.setCell ⟨S, 0, none⟩ (.slice (some ⟨gg, 0, none⟩) (rs.length + 1) capx)).setCell ⟨w.heap.size, 0, none⟩ (.int .i64 0)).setCell ⟨w.heap.size, 1, none⟩ (.int .i64 0)).heap[b]? = w1.heap[b]? := fun b h1 h2 =>
  (Below.heap_setCell _ _ _ b h2).trans ((Below.heap_setCell _ _ _ b h2).trans (Below.heap_setCell _ _ _ b h1))
 have h61 : ∀ b, b < W6.heap.size → some b ≠ (Value.slice Ar rs.length capr).ownBlock → w1.heap[b]? = W6.heap[b]? := fun b hb hne =>
  (hgrow.block b (by show b < (W6.alloc ob).heap.size; simp; omega) hne).trans (Below.heap_alloc W6 ob b hb)
 have h6 : ∀ b, b < W6.heap.size → b ≠ S → b ≠ w.heap.size → some b ≠ (Value.slice Ar rs.length capr).ownBlock → (((w1.setCell ⟨S, 0, none⟩ (.slice (some ⟨gg, 0, none⟩) (rs.length + 1) capx)).setCell ⟨w.heap.size, 0, none⟩ (.int .i64 0)).setCell ⟨w.heap.size, 1, none⟩ (.int .i64 0)).heap[b]? = W6.heap[b]? := fun b hb h1 h2 h3 => (hh b h1 h2).trans (h61 b hb h3)
 have hg1 : W6.heap.size + 1 ≤ w1.heap.size := by have := hgrow.size; simpa using this
 have hggS : gg ≠ S := by
  intro e
  rcases hat with h | h
  ·exact (blk_not_row hS1 (by decide) (v := .slice (some ⟨gg, 0, none⟩) (rs.length + 1) capx) hown1) (by rw [e]; rfl)
  ·omega
 have hggw : gg ≠ w.heap.size := by
  intro e
  rcases hat with h | h
  ·have := hro gg h; omega
  ·omega
 refine ⟨rfl, ?_, ⟨?_, fun b hb h1 h2 h3 => ?_⟩, _, _, ((Blk.set_ hS1 0 _).far (p := ⟨w.heap.size, 0, none⟩) (by simp; omega) _).far (p := ⟨w.heap.size, 1, none⟩) (by simp; omega) _, ⟨_, own_set (own_set (own_set hown2 (by simp [Value.ownBlock]; omega)) (by simp [Value.ownBlock]; omega)) (by simp [Value.ownBlock]; omega), ?_⟩, ?_⟩
 ·exact below_set2 ((below_grown ((hB6.alloc (by omega) ob).drew) hgrow ((hr6.alloc ob).drew) (Nat.le_refl _) (by show n₀ ≤ (W6.alloc ob).heap.size; simp; omega)).setCell (p := ⟨S, 0, none⟩) hn₀ _) (by omega) _ _
 ·simp [World.setCell]; omega
 ·exact (h6 b (by omega) h1 (by omega) h3).trans (hK6 b hb h2)
 ·refine RulesAre.snoc hc (hT6.keep (fun b o hb hl => World.cell?_of_block (h6 b hl (by omega) (by omega) (fun e => by have := hro b e.symm; omega))) (fun b hb hl => ⟨by omega, by omega, by omega, ?_⟩)) (hrs6.keep (fun b o hb hl => World.cell?_of_block (h6 b hl hb.1.2.1 (by omega) hb.1.2.2.2)) (fun b hb hl => ⟨hb.1.1, hb.1.2.1, hb.1.2.2.1, ?_⟩))
  ·intro e
   have e : b = gg := by simpa [Value.ownBlock] using e
   rcases hat with h | h
   ·exact hb.1.2.2.2 (by rw [e]; exact h.symm)
   ·omega
  ·intro e
   have e : b = gg := by simpa [Value.ownBlock] using e
   rcases hat with h | h
   ·have := hro gg h; omega
   ·omega
 ·exact hN6.block (h6 M (by omega) (fun e => hSM e.symm) (by omega) hneM)
theorem line_ok (n₀ S M B : Nat) (Ar : Option Addr) (b o : Nat) (capr cap : Nat) (rs : List RuleS) (bs : List Nat) (w : World) (hS : RdrAt w S Ar rs.length capr M) (hM : NamesAt w M rs) (hrow : RowIs w n₀ S M (.slice Ar rs.length capr) rs) (hSM : S ≠ M) (hn₀ : n₀ ≤ S) (hn₁ : n₀ ≤ M) (hA : BytesAt w B (some ⟨b, o, none⟩) bs) (hB : B ≤ w.heap.size) (hle : rs.length ≤ 64) (hcap : bs.length ≤ cap) {n : List Nat} (hn : n.length < bs.length) (hh : headS rs bs = .ok n) {x : Nd} (hx : parseS (bs.drop (n.length + 1)) = .ok x) :
  Calls Tryz.prog 96 #[.pointer (some ⟨S, 0, none⟩), .slice (some ⟨b, o, none⟩) bs.length cap] w (LineOut n₀ S M (.slice Ar rs.length capr) rs (lineS rs bs) w) := by
 have HV := Lib.hid (show lineS rs bs = .ok ⟨n, x⟩ by unfold lineS; rw [hh]; dsimp only; rw [hx])
 have hho := headS_ok hh
 have h64 : rs.length ≤ 63 := by omega
 have HNM := Lib.hid (show ∀ c ∈ n, c < 256 from fun c hc => by rw [hho.2.1] at hc; exact hA.1 c (List.mem_of_mem_take hc))
 clear hho
 have hb1 : Below w.heap.size w (w.alloc (.cells #[.int .i64 0, .int .i64 0] 75)) := (Below.refl _ _).alloc (Nat.le_refl _) _
 have h1 := head_go S M B Ar (some ⟨b, o, none⟩) capr cap rs bs _ (Blk.alloc hS (.cells #[.int .i64 0, .int .i64 0] 75)) (hM.kept (World.grownBy_alloc w (.cells #[.int .i64 0, .int .i64 0] 75) none) (by simp)) (hA.below ((Below.refl B w).alloc hB _)) (by simp; omega) (by omega) hcap
 rw [hh] at h1
 have H1 := Lib.hid h1
 have HB1 := Lib.hid hb1
 have HG1 := Lib.hid (Blk.new w 75 #[.int .i64 0, .int .i64 0])
 have hlen := hA.2.1
 have Hdl := Lib.hid (show (bs.drop (n.length + 1)).length = bs.length - (n.length + 1) by simp)
 have HA := Lib.hid hA
 have HX := Lib.hid hx
 have hd0 : ((0 : Int) != 0) = false := by decide
 have hsz : w.heap.size < (w.alloc (.cells #[.int .i64 0, .int .i64 0] 75)).heap.size := by simp
 obtain ⟨cs, hr0, hrs0⟩ := hrow
 have hro : ∀ g, (Value.slice Ar rs.length capr).ownBlock = some g → g < w.heap.size := fun g hg => (hr0.lt g hg).2
 have hrs0 : RulesAre w (fun b => TreeB n₀ S M (.slice Ar rs.length capr) b ∧ b < w.heap.size) rs cs := hrs0.keep (fun _ _ _ _ => rfl) (fun b hb hl => ⟨hb, hl⟩)
 have Hro := Lib.hid hro
 have HP0 := Lib.hid (show _ ∧ _ ∧ _ ∧ _ from ⟨hS, hM, hr0, hrs0⟩)
 clear hS hM hA hh h1 hb1 hx hr0 hrs0 hro
 go_enter Tryz.func96, Tryz.ntmps96
 go_wp2_with fail
 refine H1.out.mono ?_
 rintro e w2 ⟨rfl, hb2⟩
 have hG2 := HG1.out.below hb2 HG1.out.lt
 have HB2 := Lib.hid (HB1.out.trans (hb2.mono HB1.out.size))
 have hlt1 : w.heap.size < w2.heap.size := hG2.lt
 have hne1 : w.heap.size ≠ w2.heap.size := by omega
 have hG6 := Blk.new w2 75 #[.int .i64 0, .int .i64 0]
 have hb3 : Below w2.heap.size w2 (w2.alloc (.cells #[.int .i64 0, .int .i64 0] 75)) := (Below.refl _ _).alloc (Nat.le_refl _) _
 have hP := fun (A' : Option Addr) (hA' : BytesAt (w2.alloc (.cells #[.int .i64 0, .int .i64 0] 75)) (w2.alloc (.cells #[.int .i64 0, .int .i64 0] 75)).heap.size A' (bs.drop (n.length + 1))) => text_go07 A' (cap - (n.length + 1)) (bs.drop (n.length + 1)) (w2.alloc (.cells #[.int .i64 0, .int .i64 0] 75)) hA' (by rw [Hdl.out]; omega)
 rw [HX.out, Hdl.out] at hP
 have HB3 := Lib.hid (HB2.out.trans (hb3.mono HB2.out.size))
 have hA3 : BytesAt (w2.alloc (.cells #[.int .i64 0, .int .i64 0] 75)) (w2.alloc (.cells #[.int .i64 0, .int .i64 0] 75)).heap.size (some ⟨b, o, none⟩) bs := (HA.out.below (HB3.out.mono hB)).more (by have := HB3.out.size; omega)
 have HA3 := Lib.hid hA3
 have HP := Lib.hid hP
 have HG2 := Lib.hid hG2
 have HG6 := Lib.hid hG6
 have HST := Lib.hid (show (strOf n).size = n.length from strOf_size n)
 clear hb2 hG2 H1 HB1 HG1 hb3 hA3 hG6 hP HA
 dsimp only
 by_cases hc : cap = n.length + 1
 ·have he : bs.length = n.length + 1 := by omega
  subst hc
  rw [he] at HP
  simp only [Nat.sub_self] at HP
  go_wp2_with fail
  refine (HP.out _ (BytesAt.void (by rw [Hdl.out]; omega))).mono ?_
  rintro e w4 ⟨B', cap', rfl, hb4, hc4, ht4⟩
  have hG4 := HG2.out.alloc (.cells #[.int .i64 0, .int .i64 0] 75) |>.below hb4 (by simp; omega)
  have hF4 := HG6.out.below hb4 HG6.out.lt
  have HB4 := Lib.hid (HB3.out.trans (hb4.mono HB3.out.size))
  have hlt2 : w2.heap.size < w4.heap.size := hF4.lt
  have hlt3 : w.heap.size < w4.heap.size := by omega
  have hne2 : w2.heap.size ≠ w4.heap.size := by omega
  have hne3 : w.heap.size ≠ w4.heap.size := by omega
  obtain ⟨b0, b1, f0, f1⟩ := hG4.c2
  obtain ⟨b2, b3, f2, f3⟩ := hF4.c2
  have hB5 : Below w.heap.size w (((w4.setCell ⟨w2.heap.size, 0, none⟩ (.int .i64 0)).setCell ⟨w2.heap.size, 1, none⟩ (.int .i64 0)).alloc (.cells #[.int .i64 x.kind, .int .u64 (word x.set.testBit 0), .int .u64 (word x.set.testBit 1), .int .u64 (word x.set.testBit 2), .int .u64 (word x.set.testBit 3), .slice B' x.kids.len cap', .int .i64 x.lo, .int .i64 x.hi] 28)) := (below_set2 HB4.out (by omega) _ _).alloc (by have := HB4.out.size; simpa [World.setCell] using this) _
  have hG5 : Blk (((w4.setCell ⟨w2.heap.size, 0, none⟩ (.int .i64 0)).setCell ⟨w2.heap.size, 1, none⟩ (.int .i64 0)).alloc (.cells #[.int .i64 x.kind, .int .u64 (word x.set.testBit 0), .int .u64 (word x.set.testBit 1), .int .u64 (word x.set.testBit 2), .int .u64 (word x.set.testBit 3), .slice B' x.kids.len cap', .int .i64 x.lo, .int .i64 x.hi] 28)) w.heap.size 75 #[.int .i64 0, .int .i64 0] := (hG4.far2 (g' := w2.heap.size) (by omega) (.int .i64 0) (.int .i64 0)).alloc _
  have hF5 : Blk (((w4.setCell ⟨w2.heap.size, 0, none⟩ (.int .i64 0)).setCell ⟨w2.heap.size, 1, none⟩ (.int .i64 0)).alloc (.cells #[.int .i64 x.kind, .int .u64 (word x.set.testBit 0), .int .u64 (word x.set.testBit 1), .int .u64 (word x.set.testBit 2), .int .u64 (word x.set.testBit 3), .slice B' x.kids.len cap', .int .i64 x.lo, .int .i64 x.hi] 28)) w2.heap.size 75 #[.int .i64 0, .int .i64 0] := (hF4.set2 (a' := .int .i64 0) (b' := .int .i64 0)).alloc _
  have hX5 : Blk (((w4.setCell ⟨w2.heap.size, 0, none⟩ (.int .i64 0)).setCell ⟨w2.heap.size, 1, none⟩ (.int .i64 0)).alloc (.cells #[.int .i64 x.kind, .int .u64 (word x.set.testBit 0), .int .u64 (word x.set.testBit 1), .int .u64 (word x.set.testBit 2), .int .u64 (word x.set.testBit 3), .slice B' x.kids.len cap', .int .i64 x.lo, .int .i64 x.hi] 28)) w4.heap.size 28 (ndA x B' cap') := Blk.new_at (by simp [World.setCell])
  have hT5 : TreesAt (((w4.setCell ⟨w2.heap.size, 0, none⟩ (.int .i64 0)).setCell ⟨w2.heap.size, 1, none⟩ (.int .i64 0)).alloc (.cells #[.int .i64 x.kind, .int .u64 (word x.set.testBit 0), .int .u64 (word x.set.testBit 1), .int .u64 (word x.set.testBit 2), .int .u64 (word x.set.testBit 3), .slice B' x.kids.len cap', .int .i64 x.lo, .int .i64 x.hi] 28)) (fun b => w2.heap.size < b ∧ b < w4.heap.size) x.kids B' := by
   refine TreesAt.keep (w := w4) (P := fun b => (w2.alloc (.cells #[.int .i64 0, .int .i64 0] 75)).heap.size ≤ b) (fun b o hb hl => ?_) (fun b hb hl => ⟨by have := hb; simp at this; omega, hl⟩) ht4
   have hb' : w2.heap.size < b := by have := hb; simp at this; omega
   exact World.cell?_of_block (heap_past (by omega) hl _ _ _)
  have hcx := Lib.hid hc4
  have HX5 := Lib.hid (show _ ∧ _ ∧ _ ∧ _ ∧ _ ∧ _ ∧ _ ∧ _ from ⟨hB5, hG5, hX5, hT5, HP0.out.1.below hB5 HP0.out.1.lt, HP0.out.2.1.below hB5 HP0.out.2.1.lt, own_below HP0.out.2.2.1 hB5, HP0.out.2.2.2.below hB5⟩)
  have HF5 := Lib.hid hF5
  have hz5 : ((((w4.setCell ⟨w2.heap.size, 0, none⟩ (.int .i64 0)).setCell ⟨w2.heap.size, 1, none⟩ (.int .i64 0)).alloc (.cells #[.int .i64 x.kind, .int .u64 (word x.set.testBit 0), .int .u64 (word x.set.testBit 1), .int .u64 (word x.set.testBit 2), .int .u64 (word x.set.testBit 3), .slice B' x.kids.len cap', .int .i64 x.lo, .int .i64 x.hi] 28))).heap.size = w4.heap.size + 1 := by simp [World.setCell]
  have HZ5 := Lib.hid hz5
  clear hb4 hc4 ht4 hG4 hF4 HP HG2 HG6 hB5 hG5 hF5 hX5 hT5 hz5
  unfold ndV
  unfold ndA at HX5
  dsimp only
  go_upto_region 5 with (fail)
  clear b2 b3 f2 f3
  generalize hW5 : (((w4.setCell ⟨w2.heap.size, 0, none⟩ (.int .i64 0)).setCell ⟨w2.heap.size, 1, none⟩ (.int .i64 0)).alloc (.cells #[.int .i64 x.kind, .int .u64 (word x.set.testBit 0), .int .u64 (word x.set.testBit 1), .int .u64 (word x.set.testBit 2), .int .u64 (word x.set.testBit 3), .slice B' x.kids.len cap', .int .i64 x.lo, .int .i64 x.hi] 28)) = W5 at *
  clear hW5 b0 b1 f0 f1
  obtain ⟨D, hown5, hmD, hatD⟩ := HX5.out.2.2.2.2.2.1.2
  have HD := Lib.hid (show _ ∧ _ from ⟨hmD, hatD⟩)
  have hz5 := HZ5.out
  have hSl : S < w.heap.size := HP0.out.1.lt
  have hMl : M < w.heap.size := HP0.out.2.1.lt
  have s0 : W5.cell? ⟨S, 0, none⟩ = some (.slice Ar rs.length capr) := HX5.out.2.2.2.2.1.cell 0
  have s1 : W5.cell? ⟨S, 1, none⟩ = some (.map (some M)) := HX5.out.2.2.2.2.1.cell 1
  have hkey := WideMaps.keyOf_string_mk (P := Tryz.prog) Tryz.underlying9 (s := strOf n) (by rw [HST.out]; exact Nat.le_trans (show n.length ≤ 140737488355328 by omega) (by decide))
  have h63 : rs.length < maxLen := Nat.lt_of_le_of_lt h64 (by decide)
  have HO5 := Lib.hid hown5
  obtain ⟨b2, b3, f2, f3⟩ := HF5.out.c2
  clear hmD hatD hown5
  go_wp2_with (at_mapUpdate; refine wpList_mapUpdate_own _ rfl _ _ _ 122 rfl 9 4 (string_keyed Tryz.underlying9) Tryz.underlying122 (plainElem Tryz.prog 4) M rs.length D rfl HO5.out h63 _ _ _ rfl rfl hkey _ [] (plainElem_bool Tryz.underlying4 true) ?_; intro W6 hown6 hgrow6)
  clear b2 b3 f2 f3 s0 s1
  rw [strOf_list] at hown6
  have hr5 := HX5.out.2.2.2.2.2.2.1
  have hrs5 := HX5.out.2.2.2.2.2.2.2
  have hneM := NamesAt.not_row HX5.out.2.2.2.2.2.1 hr5
  have hr6 := hr5.kept hgrow6 (.inr (fun e => hneM e.symm))
  have hN6 : NamesAt W6 M (rs ++ [⟨n, x⟩]) := NamesAt.put (w := W5) HX5.out.2.2.2.2.2.1.1 HD.out.1 HD.out.2 HNM.out hown6
  have hS6 : RdrAt W6 S Ar rs.length capr M := Blk.grown HX5.out.2.2.2.2.1 hgrow6 (by simp; exact hSM)
  have hG6 := Blk.grown HX5.out.2.1 hgrow6 (by simp; omega)
  have hX6 := Blk.grown HX5.out.2.2.1 hgrow6 (by simp; omega)
  have hT6 : TreesAt W6 (fun b => w2.heap.size < b ∧ b < w4.heap.size) x.kids B' := HX5.out.2.2.2.1.keep (fun b o hb hl => World.cell?_of_block (hgrow6.block b hl (by simp; omega))) (fun b hb _ => hb)
  have hrs6 : RulesAre W6 (fun b => TreeB n₀ S M (.slice Ar rs.length capr) b ∧ b < w.heap.size) rs cs := hrs5.keep (fun b o hb hl => World.cell?_of_block (hgrow6.block b hl (by simp; exact hb.1.2.2.1))) (fun b hb _ => hb)
  have hB6 : Below n₀ w W6 := (HX5.out.1.mono (by omega)).grown hgrow6 (by have := HX5.out.1.size; omega) (fun k e => by cases e; exact hn₁)
  have hK6 : ∀ b, b < w.heap.size → b ≠ M → W6.heap[b]? = w.heap[b]? := fun b hb hm => (hgrow6.block b (by have := HX5.out.1.size; omega) (by simp; exact hm)).trans (HX5.out.1.block b hb)
  have hz6 : W5.heap.size ≤ W6.heap.size := hgrow6.size
  have hneS := blk_not_row hS6 (by decide) hr6
  have hneG := blk_not_row hG6 (by decide) hr6
  obtain ⟨s0, s1, fs0, fs1⟩ := Blk.c2 hS6
  have x0 := hX6.cell 0
  have x1 := hX6.cell 1
  have x2 := hX6.cell 2
  have x3 := hX6.cell 3
  have x4 := hX6.cell 4
  have x5 := hX6.cell 5
  have x6 := hX6.cell 6
  have x7 := hX6.cell 7
  have hSz6 : S < W6.heap.size := Blk.lt hS6
  have hnz6 : n₀ ≤ W6.heap.size := by omega
  have hwz6 : w.heap.size < W6.heap.size := by omega
  have HZ6 := Lib.hid (show W5.heap.size ≤ W6.heap.size ∧ W5.heap.size = w4.heap.size + 1 from ⟨hz6, hz5⟩)
  have HG6 := Lib.hid (show _ ∧ _ ∧ _ ∧ _ ∧ _ ∧ _ from ⟨hN6, hG6, hT6, hrs6, hB6, hK6⟩)
  have HS6 := Lib.hid hS6
  have Hr6 := Lib.hid hr6
  have HneS := Lib.hid hneS
  have HneG := Lib.hid hneG
  have HneM := Lib.hid hneM
  have h63b : rs.length + 1 ≤ maxLen := by omega
  have hby : (rs.length + 1) * 96 ≤ 140737488355328 := by omega
  obtain ⟨i0, hi, hzr0, hzr1, hzr2⟩ := info_parts info_rule
  clear hr5 hrs5 hneM hr6 hN6 hS6 hG6 hX6 hT6 hrs6 hB6 hK6 hneS hneG hown6 hgrow6 hz6 hz5 hkey h63
  go_region_law ((refine step_append_lies _ (by rfl) _ _ _ (by rfl) n₀ 120 i0 _ 9 96 Tryz.underlying68 hi hzr0 hzr1 hzr2 rfl (by decide) (.slice Ar rs.length capr) rs.length cs (by rfl) ((Hr6.out.alloc _).drew) ⟨W6.heap.size, 0, none⟩ 1 1 (ruleCell ⟨n, x⟩ B' cap') (by rfl) (by rfl) (World.news_of_block (cs := #[.string (strOf n), .int .i64 x.kind, .int .u64 (word x.set.testBit 0), .int .u64 (word x.set.testBit 1), .int .u64 (word x.set.testBit 2), .int .u64 (word x.set.testBit 3), .slice B' x.kids.len cap', .int .i64 x.lo, .int .i64 x.hi]) (t := 120) (fr := (0, 0)) (heap_alloc_new W6 _)) (by simp [ruleCell, ndCell, Value.oneCell']) (by decide) h63b hby (by simp; omega) (W6.heap.size + 1) (by simp) ?_; intro gg capx w1 hown1 hgrow hat hltg; have hS1 := Blk.grown (Blk.drew (Blk.alloc HS6.out _)) hgrow HneS.out; have c0 := hS1.cell 0; have g0 := hS1.frozen 0; have hG1 := Blk.grown (Blk.drew (Blk.alloc HG6.out.2.1 _)) hgrow HneG.out; have d0 := hG1.cell 0; have d1 := hG1.cell 1; have e0 := hG1.frozen 0; have e1 := hG1.frozen 1; have HS1 := Lib.hid hS1; have HG1 := Lib.hid hG1; have Hgrow := Lib.hid hgrow; have Hown1 := Lib.hid hown1; have Hat := Lib.hid hat; clear hS1 hG1 hgrow hown1 hat))
  all_goals go_wp2
  all_goals go_light
  all_goals exact bodyPost_ret (ret_badv Tryz.results96 rfl (Blk.set2 (Blk.far HG1.out (p := ⟨S, 0, none⟩) (by simp; omega) _))) rfl (by rw [HV.out]; exact line_end hSM hn₀ hn₁ hSl hMl hlt1 HZ6.out.1 (by have := HZ6.out.2; omega) Hro.out HG6.out.1 HG6.out.2.2.1 HG6.out.2.2.2.1 HG6.out.2.2.2.2.1 HG6.out.2.2.2.2.2 Hr6.out HneM.out hcx.out HS1.out Hown1.out Hgrow.out Hat.out)
 ·go_wp2_with fail
  refine (HP.out _ (HA3.out.tail _)).mono ?_
  rintro e w4 ⟨B', cap', rfl, hb4, hc4, ht4⟩
  have hG4 := HG2.out.alloc (.cells #[.int .i64 0, .int .i64 0] 75) |>.below hb4 (by simp; omega)
  have hF4 := HG6.out.below hb4 HG6.out.lt
  have HB4 := Lib.hid (HB3.out.trans (hb4.mono HB3.out.size))
  have hlt2 : w2.heap.size < w4.heap.size := hF4.lt
  have hlt3 : w.heap.size < w4.heap.size := by omega
  have hne2 : w2.heap.size ≠ w4.heap.size := by omega
  have hne3 : w.heap.size ≠ w4.heap.size := by omega
  obtain ⟨b0, b1, f0, f1⟩ := hG4.c2
  obtain ⟨b2, b3, f2, f3⟩ := hF4.c2
  have hB5 : Below w.heap.size w (((w4.setCell ⟨w2.heap.size, 0, none⟩ (.int .i64 0)).setCell ⟨w2.heap.size, 1, none⟩ (.int .i64 0)).alloc (.cells #[.int .i64 x.kind, .int .u64 (word x.set.testBit 0), .int .u64 (word x.set.testBit 1), .int .u64 (word x.set.testBit 2), .int .u64 (word x.set.testBit 3), .slice B' x.kids.len cap', .int .i64 x.lo, .int .i64 x.hi] 28)) := (below_set2 HB4.out (by omega) _ _).alloc (by have := HB4.out.size; simpa [World.setCell] using this) _
  have hG5 : Blk (((w4.setCell ⟨w2.heap.size, 0, none⟩ (.int .i64 0)).setCell ⟨w2.heap.size, 1, none⟩ (.int .i64 0)).alloc (.cells #[.int .i64 x.kind, .int .u64 (word x.set.testBit 0), .int .u64 (word x.set.testBit 1), .int .u64 (word x.set.testBit 2), .int .u64 (word x.set.testBit 3), .slice B' x.kids.len cap', .int .i64 x.lo, .int .i64 x.hi] 28)) w.heap.size 75 #[.int .i64 0, .int .i64 0] := (hG4.far2 (g' := w2.heap.size) (by omega) (.int .i64 0) (.int .i64 0)).alloc _
  have hF5 : Blk (((w4.setCell ⟨w2.heap.size, 0, none⟩ (.int .i64 0)).setCell ⟨w2.heap.size, 1, none⟩ (.int .i64 0)).alloc (.cells #[.int .i64 x.kind, .int .u64 (word x.set.testBit 0), .int .u64 (word x.set.testBit 1), .int .u64 (word x.set.testBit 2), .int .u64 (word x.set.testBit 3), .slice B' x.kids.len cap', .int .i64 x.lo, .int .i64 x.hi] 28)) w2.heap.size 75 #[.int .i64 0, .int .i64 0] := (hF4.set2 (a' := .int .i64 0) (b' := .int .i64 0)).alloc _
  have hX5 : Blk (((w4.setCell ⟨w2.heap.size, 0, none⟩ (.int .i64 0)).setCell ⟨w2.heap.size, 1, none⟩ (.int .i64 0)).alloc (.cells #[.int .i64 x.kind, .int .u64 (word x.set.testBit 0), .int .u64 (word x.set.testBit 1), .int .u64 (word x.set.testBit 2), .int .u64 (word x.set.testBit 3), .slice B' x.kids.len cap', .int .i64 x.lo, .int .i64 x.hi] 28)) w4.heap.size 28 (ndA x B' cap') := Blk.new_at (by simp [World.setCell])
  have hT5 : TreesAt (((w4.setCell ⟨w2.heap.size, 0, none⟩ (.int .i64 0)).setCell ⟨w2.heap.size, 1, none⟩ (.int .i64 0)).alloc (.cells #[.int .i64 x.kind, .int .u64 (word x.set.testBit 0), .int .u64 (word x.set.testBit 1), .int .u64 (word x.set.testBit 2), .int .u64 (word x.set.testBit 3), .slice B' x.kids.len cap', .int .i64 x.lo, .int .i64 x.hi] 28)) (fun b => w2.heap.size < b ∧ b < w4.heap.size) x.kids B' := by
   refine TreesAt.keep (w := w4) (P := fun b => (w2.alloc (.cells #[.int .i64 0, .int .i64 0] 75)).heap.size ≤ b) (fun b o hb hl => ?_) (fun b hb hl => ⟨by have := hb; simp at this; omega, hl⟩) ht4
   have hb' : w2.heap.size < b := by have := hb; simp at this; omega
   exact World.cell?_of_block (heap_past (by omega) hl _ _ _)
  have hcx := Lib.hid hc4
  have HX5 := Lib.hid (show _ ∧ _ ∧ _ ∧ _ ∧ _ ∧ _ ∧ _ ∧ _ from ⟨hB5, hG5, hX5, hT5, HP0.out.1.below hB5 HP0.out.1.lt, HP0.out.2.1.below hB5 HP0.out.2.1.lt, own_below HP0.out.2.2.1 hB5, HP0.out.2.2.2.below hB5⟩)
  have HF5 := Lib.hid hF5
  have hz5 : ((((w4.setCell ⟨w2.heap.size, 0, none⟩ (.int .i64 0)).setCell ⟨w2.heap.size, 1, none⟩ (.int .i64 0)).alloc (.cells #[.int .i64 x.kind, .int .u64 (word x.set.testBit 0), .int .u64 (word x.set.testBit 1), .int .u64 (word x.set.testBit 2), .int .u64 (word x.set.testBit 3), .slice B' x.kids.len cap', .int .i64 x.lo, .int .i64 x.hi] 28))).heap.size = w4.heap.size + 1 := by simp [World.setCell]
  have HZ5 := Lib.hid hz5
  clear hb4 hc4 ht4 hG4 hF4 HP HG2 HG6 hB5 hG5 hF5 hX5 hT5 hz5
  unfold ndV
  unfold ndA at HX5
  dsimp only
  go_upto_region 5 with (fail)
  clear b2 b3 f2 f3
  generalize hW5 : (((w4.setCell ⟨w2.heap.size, 0, none⟩ (.int .i64 0)).setCell ⟨w2.heap.size, 1, none⟩ (.int .i64 0)).alloc (.cells #[.int .i64 x.kind, .int .u64 (word x.set.testBit 0), .int .u64 (word x.set.testBit 1), .int .u64 (word x.set.testBit 2), .int .u64 (word x.set.testBit 3), .slice B' x.kids.len cap', .int .i64 x.lo, .int .i64 x.hi] 28)) = W5 at *
  clear hW5 b0 b1 f0 f1
  obtain ⟨D, hown5, hmD, hatD⟩ := HX5.out.2.2.2.2.2.1.2
  have HD := Lib.hid (show _ ∧ _ from ⟨hmD, hatD⟩)
  have hz5 := HZ5.out
  have hSl : S < w.heap.size := HP0.out.1.lt
  have hMl : M < w.heap.size := HP0.out.2.1.lt
  have s0 : W5.cell? ⟨S, 0, none⟩ = some (.slice Ar rs.length capr) := HX5.out.2.2.2.2.1.cell 0
  have s1 : W5.cell? ⟨S, 1, none⟩ = some (.map (some M)) := HX5.out.2.2.2.2.1.cell 1
  have hkey := WideMaps.keyOf_string_mk (P := Tryz.prog) Tryz.underlying9 (s := strOf n) (by rw [HST.out]; exact Nat.le_trans (show n.length ≤ 140737488355328 by omega) (by decide))
  have h63 : rs.length < maxLen := Nat.lt_of_le_of_lt h64 (by decide)
  have HO5 := Lib.hid hown5
  obtain ⟨b2, b3, f2, f3⟩ := HF5.out.c2
  clear hmD hatD hown5
  go_wp2_with (at_mapUpdate; refine wpList_mapUpdate_own _ rfl _ _ _ 122 rfl 9 4 (string_keyed Tryz.underlying9) Tryz.underlying122 (plainElem Tryz.prog 4) M rs.length D rfl HO5.out h63 _ _ _ rfl rfl hkey _ [] (plainElem_bool Tryz.underlying4 true) ?_; intro W6 hown6 hgrow6)
  clear b2 b3 f2 f3 s0 s1
  rw [strOf_list] at hown6
  have hr5 := HX5.out.2.2.2.2.2.2.1
  have hrs5 := HX5.out.2.2.2.2.2.2.2
  have hneM := NamesAt.not_row HX5.out.2.2.2.2.2.1 hr5
  have hr6 := hr5.kept hgrow6 (.inr (fun e => hneM e.symm))
  have hN6 : NamesAt W6 M (rs ++ [⟨n, x⟩]) := NamesAt.put (w := W5) HX5.out.2.2.2.2.2.1.1 HD.out.1 HD.out.2 HNM.out hown6
  have hS6 : RdrAt W6 S Ar rs.length capr M := Blk.grown HX5.out.2.2.2.2.1 hgrow6 (by simp; exact hSM)
  have hG6 := Blk.grown HX5.out.2.1 hgrow6 (by simp; omega)
  have hX6 := Blk.grown HX5.out.2.2.1 hgrow6 (by simp; omega)
  have hT6 : TreesAt W6 (fun b => w2.heap.size < b ∧ b < w4.heap.size) x.kids B' := HX5.out.2.2.2.1.keep (fun b o hb hl => World.cell?_of_block (hgrow6.block b hl (by simp; omega))) (fun b hb _ => hb)
  have hrs6 : RulesAre W6 (fun b => TreeB n₀ S M (.slice Ar rs.length capr) b ∧ b < w.heap.size) rs cs := hrs5.keep (fun b o hb hl => World.cell?_of_block (hgrow6.block b hl (by simp; exact hb.1.2.2.1))) (fun b hb _ => hb)
  have hB6 : Below n₀ w W6 := (HX5.out.1.mono (by omega)).grown hgrow6 (by have := HX5.out.1.size; omega) (fun k e => by cases e; exact hn₁)
  have hK6 : ∀ b, b < w.heap.size → b ≠ M → W6.heap[b]? = w.heap[b]? := fun b hb hm => (hgrow6.block b (by have := HX5.out.1.size; omega) (by simp; exact hm)).trans (HX5.out.1.block b hb)
  have hz6 : W5.heap.size ≤ W6.heap.size := hgrow6.size
  have hneS := blk_not_row hS6 (by decide) hr6
  have hneG := blk_not_row hG6 (by decide) hr6
  obtain ⟨s0, s1, fs0, fs1⟩ := Blk.c2 hS6
  have x0 := hX6.cell 0
  have x1 := hX6.cell 1
  have x2 := hX6.cell 2
  have x3 := hX6.cell 3
  have x4 := hX6.cell 4
  have x5 := hX6.cell 5
  have x6 := hX6.cell 6
  have x7 := hX6.cell 7
  have hSz6 : S < W6.heap.size := Blk.lt hS6
  have hnz6 : n₀ ≤ W6.heap.size := by omega
  have hwz6 : w.heap.size < W6.heap.size := by omega
  have HZ6 := Lib.hid (show W5.heap.size ≤ W6.heap.size ∧ W5.heap.size = w4.heap.size + 1 from ⟨hz6, hz5⟩)
  have HG6 := Lib.hid (show _ ∧ _ ∧ _ ∧ _ ∧ _ ∧ _ from ⟨hN6, hG6, hT6, hrs6, hB6, hK6⟩)
  have HS6 := Lib.hid hS6
  have Hr6 := Lib.hid hr6
  have HneS := Lib.hid hneS
  have HneG := Lib.hid hneG
  have HneM := Lib.hid hneM
  have h63b : rs.length + 1 ≤ maxLen := by omega
  have hby : (rs.length + 1) * 96 ≤ 140737488355328 := by omega
  obtain ⟨i0, hi, hzr0, hzr1, hzr2⟩ := info_parts info_rule
  clear hr5 hrs5 hneM hr6 hN6 hS6 hG6 hX6 hT6 hrs6 hB6 hK6 hneS hneG hown6 hgrow6 hz6 hz5 hkey h63
  go_region_law ((refine step_append_lies _ (by rfl) _ _ _ (by rfl) n₀ 120 i0 _ 9 96 Tryz.underlying68 hi hzr0 hzr1 hzr2 rfl (by decide) (.slice Ar rs.length capr) rs.length cs (by rfl) ((Hr6.out.alloc _).drew) ⟨W6.heap.size, 0, none⟩ 1 1 (ruleCell ⟨n, x⟩ B' cap') (by rfl) (by rfl) (World.news_of_block (cs := #[.string (strOf n), .int .i64 x.kind, .int .u64 (word x.set.testBit 0), .int .u64 (word x.set.testBit 1), .int .u64 (word x.set.testBit 2), .int .u64 (word x.set.testBit 3), .slice B' x.kids.len cap', .int .i64 x.lo, .int .i64 x.hi]) (t := 120) (fr := (0, 0)) (heap_alloc_new W6 _)) (by simp [ruleCell, ndCell, Value.oneCell']) (by decide) h63b hby (by simp; omega) (W6.heap.size + 1) (by simp) ?_; intro gg capx w1 hown1 hgrow hat hltg; have hS1 := Blk.grown (Blk.drew (Blk.alloc HS6.out _)) hgrow HneS.out; have c0 := hS1.cell 0; have g0 := hS1.frozen 0; have hG1 := Blk.grown (Blk.drew (Blk.alloc HG6.out.2.1 _)) hgrow HneG.out; have d0 := hG1.cell 0; have d1 := hG1.cell 1; have e0 := hG1.frozen 0; have e1 := hG1.frozen 1; have HS1 := Lib.hid hS1; have HG1 := Lib.hid hG1; have Hgrow := Lib.hid hgrow; have Hown1 := Lib.hid hown1; have Hat := Lib.hid hat; clear hS1 hG1 hgrow hown1 hat))
  all_goals go_wp2
  all_goals go_light
  all_goals exact bodyPost_ret (ret_badv Tryz.results96 rfl (Blk.set2 (Blk.far HG1.out (p := ⟨S, 0, none⟩) (by simp; omega) _))) rfl (by rw [HV.out]; exact line_end hSM hn₀ hn₁ hSl hMl hlt1 HZ6.out.1 (by have := HZ6.out.2; omega) Hro.out HG6.out.1 HG6.out.2.2.1 HG6.out.2.2.2.1 HG6.out.2.2.2.2.1 HG6.out.2.2.2.2.2 Hr6.out HneM.out hcx.out HS1.out Hown1.out Hgrow.out Hat.out)
end Go.Proofs.YtfekpkelmliejaaGreatDoor
