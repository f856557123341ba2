/- Texts of the claim. -/
import Derived.Test.YtfekpkelmliejaaGreatDoorJZ03
import Derived.Test.YtfekpkelmliejaaGreatDoorJNfaF
namespace Go.Proofs.YtfekpkelmliejaaGreatDoor
open Go.RowKit
set_option linter.unusedSimpArgs false
set_option linter.unusedVariables false
set_option maxRecDepth 100000
set_option maxHeartbeats 8000000
theorem lay1 (x : Nd) (hk : x.kind = 1) (B : Option Addr) (cap i base g : Nat) (S : Nat → Prop) (m : MachS) (w : World) (hb : base ≤ w.heap.size) (R : MachS × Nat) (HC : Hid (Calls Tryz.prog 164 #[.pointer (some ⟨g, 0, none⟩), ndV x B cap, .int .i64 (i : Int)] (w.alloc (.cells (ndA x B cap) 28)) (LayOut base g S (w.alloc (.cells (ndA x B cap) 28)) R))) :
  Calls Tryz.prog 120 #[.pointer (some ⟨g, 0, none⟩), ndV x B cap, .int .i64 (i : Int)] w (LayOut base g S w R) := by
 have HB := Lib.hid hb
 unfold ndV at *
 unfold ndA at *
 rw [hk] at *
 clear hk
 go_enter Tryz.func120, Tryz.ntmps120
 go_wp2_with fail
 refine HC.out.mono ?_
 rintro e w2 ⟨rfl, hl⟩
 have HL := Lib.hid hl
 clear hl HC
 dsimp only
 go_wp2
 go_light
 go_ret
 exact LayOut.alloc_first HB.out ⟨rfl, HL.out⟩
theorem lay2 (x : Nd) (hk : x.kind = 2) (B : Option Addr) (cap i base g : Nat) (S : Nat → Prop) (m : MachS) (w : World) (hb : base ≤ w.heap.size) (R : MachS × Nat) (HC : Hid (Calls Tryz.prog 164 #[.pointer (some ⟨g, 0, none⟩), ndV x B cap, .int .i64 (i : Int)] (w.alloc (.cells (ndA x B cap) 28)) (LayOut base g S (w.alloc (.cells (ndA x B cap) 28)) R))) :
  Calls Tryz.prog 120 #[.pointer (some ⟨g, 0, none⟩), ndV x B cap, .int .i64 (i : Int)] w (LayOut base g S w R) := by
 have HB := Lib.hid hb
 unfold ndV at *
 unfold ndA at *
 rw [hk] at *
 clear hk
 go_enter Tryz.func120, Tryz.ntmps120
 go_wp2_with fail
 refine HC.out.mono ?_
 rintro e w2 ⟨rfl, hl⟩
 have HL := Lib.hid hl
 clear hl HC
 dsimp only
 go_wp2
 go_light
 go_ret
 exact LayOut.alloc_first HB.out ⟨rfl, HL.out⟩
theorem lay3 (x : Nd) (hk : x.kind = 3) (B : Option Addr) (cap i base g : Nat) (S : Nat → Prop) (m : MachS) (w : World) (hb : base ≤ w.heap.size) (R : MachS × Nat) (HC : Hid (Calls Tryz.prog 164 #[.pointer (some ⟨g, 0, none⟩), ndV x B cap, .int .i64 (i : Int)] (w.alloc (.cells (ndA x B cap) 28)) (LayOut base g S (w.alloc (.cells (ndA x B cap) 28)) R))) :
  Calls Tryz.prog 120 #[.pointer (some ⟨g, 0, none⟩), ndV x B cap, .int .i64 (i : Int)] w (LayOut base g S w R) := by
 have HB := Lib.hid hb
 unfold ndV at *
 unfold ndA at *
 rw [hk] at *
 clear hk
 go_enter Tryz.func120, Tryz.ntmps120
 go_wp2_with fail
 refine HC.out.mono ?_
 rintro e w2 ⟨rfl, hl⟩
 have HL := Lib.hid hl
 clear hl HC
 dsimp only
 go_wp2
 go_light
 go_ret
 exact LayOut.alloc_first HB.out ⟨rfl, HL.out⟩
theorem lay4 (x : Nd) (hk : x.kind = 4) (B : Option Addr) (cap i base g : Nat) (S : Nat → Prop) (m : MachS) (w : World) (hb : base ≤ w.heap.size) (R : MachS × Nat) (HC : Hid (Calls Tryz.prog 165 #[.pointer (some ⟨g, 0, none⟩), ndV x B cap, .int .i64 (i : Int)] (w.alloc (.cells (ndA x B cap) 28)) (LayOut base g S (w.alloc (.cells (ndA x B cap) 28)) R))) :
  Calls Tryz.prog 120 #[.pointer (some ⟨g, 0, none⟩), ndV x B cap, .int .i64 (i : Int)] w (LayOut base g S w R) := by
 have HB := Lib.hid hb
 unfold ndV at *
 unfold ndA at *
 rw [hk] at *
 clear hk
 go_enter Tryz.func120, Tryz.ntmps120
 go_wp2_with fail
 refine HC.out.mono ?_
 rintro e w2 ⟨rfl, hl⟩
 have HL := Lib.hid hl
 clear hl HC
 dsimp only
 go_wp2
 go_light
 go_ret
 exact LayOut.alloc_first HB.out ⟨rfl, HL.out⟩
theorem lay5 (x : Nd) (hk : x.kind = 5) (B : Option Addr) (cap i base g : Nat) (S : Nat → Prop) (m : MachS) (w : World) (hb : base ≤ w.heap.size) (R : MachS × Nat) (HC : Hid (Calls Tryz.prog 166 #[.pointer (some ⟨g, 0, none⟩), ndV x B cap, .int .i64 (i : Int)] (w.alloc (.cells (ndA x B cap) 28)) (LayOut base g S (w.alloc (.cells (ndA x B cap) 28)) R))) :
  Calls Tryz.prog 120 #[.pointer (some ⟨g, 0, none⟩), ndV x B cap, .int .i64 (i : Int)] w (LayOut base g S w R) := by
 have HB := Lib.hid hb
 unfold ndV at *
 unfold ndA at *
 rw [hk] at *
 clear hk
 go_enter Tryz.func120, Tryz.ntmps120
 go_wp2_with fail
 refine HC.out.mono ?_
 rintro e w2 ⟨rfl, hl⟩
 have HL := Lib.hid hl
 clear hl HC
 dsimp only
 go_wp2
 go_light
 go_ret
 exact LayOut.alloc_first HB.out ⟨rfl, HL.out⟩
theorem lay6 (x : Nd) (hk : x.kind = 6) (B : Option Addr) (cap i base g : Nat) (S : Nat → Prop) (m : MachS) (w : World) (hb : base ≤ w.heap.size) (R : MachS × Nat) (HC : Hid (Calls Tryz.prog 167 #[.pointer (some ⟨g, 0, none⟩), ndV x B cap, .int .i64 (i : Int)] (w.alloc (.cells (ndA x B cap) 28)) (LayOut base g S (w.alloc (.cells (ndA x B cap) 28)) R))) :
  Calls Tryz.prog 120 #[.pointer (some ⟨g, 0, none⟩), ndV x B cap, .int .i64 (i : Int)] w (LayOut base g S w R) := by
 have HB := Lib.hid hb
 unfold ndV at *
 unfold ndA at *
 rw [hk] at *
 clear hk
 go_enter Tryz.func120, Tryz.ntmps120
 go_wp2_with fail
 refine HC.out.mono ?_
 rintro e w2 ⟨rfl, hl⟩
 have HL := Lib.hid hl
 clear hl HC
 dsimp only
 go_wp2
 go_light
 go_ret
 exact LayOut.alloc_first HB.out ⟨rfl, HL.out⟩
theorem lay7 (x : Nd) (hk : x.kind = 7) (B : Option Addr) (cap i base g : Nat) (S : Nat → Prop) (m : MachS) (w : World) (hb : base ≤ w.heap.size) (R : MachS × Nat) (HC : Hid (Calls Tryz.prog 167 #[.pointer (some ⟨g, 0, none⟩), ndV x B cap, .int .i64 (i : Int)] (w.alloc (.cells (ndA x B cap) 28)) (LayOut base g S (w.alloc (.cells (ndA x B cap) 28)) R))) :
  Calls Tryz.prog 120 #[.pointer (some ⟨g, 0, none⟩), ndV x B cap, .int .i64 (i : Int)] w (LayOut base g S w R) := by
 have HB := Lib.hid hb
 unfold ndV at *
 unfold ndA at *
 rw [hk] at *
 clear hk
 go_enter Tryz.func120, Tryz.ntmps120
 go_wp2_with fail
 refine HC.out.mono ?_
 rintro e w2 ⟨rfl, hl⟩
 have HL := Lib.hid hl
 clear hl HC
 dsimp only
 go_wp2
 go_light
 go_ret
 exact LayOut.alloc_first HB.out ⟨rfl, HL.out⟩
theorem lay8 (x : Nd) (hk : x.kind = 8) (B : Option Addr) (cap i base g : Nat) (S : Nat → Prop) (m : MachS) (w : World) (hb : base ≤ w.heap.size) (R : MachS × Nat) (HC : Hid (Calls Tryz.prog 168 #[.pointer (some ⟨g, 0, none⟩), ndV x B cap, .int .i64 (i : Int)] (w.alloc (.cells (ndA x B cap) 28)) (LayOut base g S (w.alloc (.cells (ndA x B cap) 28)) R))) :
  Calls Tryz.prog 120 #[.pointer (some ⟨g, 0, none⟩), ndV x B cap, .int .i64 (i : Int)] w (LayOut base g S w R) := by
 have HB := Lib.hid hb
 unfold ndV at *
 unfold ndA at *
 rw [hk] at *
 clear hk
 go_enter Tryz.func120, Tryz.ntmps120
 go_wp2_with fail
 refine HC.out.mono ?_
 rintro e w2 ⟨rfl, hl⟩
 have HL := Lib.hid hl
 clear hl HC
 dsimp only
 go_wp2
 go_light
 go_ret
 exact LayOut.alloc_first HB.out ⟨rfl, HL.out⟩
theorem lay9 (x : Nd) (hk : x.kind = 9) (B : Option Addr) (cap i base g : Nat) (S : Nat → Prop) (m : MachS) (w : World) (hb : base ≤ w.heap.size) (R : MachS × Nat) (HC : Hid (Calls Tryz.prog 169 #[.pointer (some ⟨g, 0, none⟩), ndV x B cap, .int .i64 (i : Int)] (w.alloc (.cells (ndA x B cap) 28)) (LayOut base g S (w.alloc (.cells (ndA x B cap) 28)) R))) :
  Calls Tryz.prog 120 #[.pointer (some ⟨g, 0, none⟩), ndV x B cap, .int .i64 (i : Int)] w (LayOut base g S w R) := by
 have HB := Lib.hid hb
 unfold ndV at *
 unfold ndA at *
 rw [hk] at *
 clear hk
 go_enter Tryz.func120, Tryz.ntmps120
 go_wp2_with fail
 refine HC.out.mono ?_
 rintro e w2 ⟨rfl, hl⟩
 have HL := Lib.hid hl
 clear hl HC
 dsimp only
 go_wp2
 go_light
 go_ret
 exact LayOut.alloc_first HB.out ⟨rfl, HL.out⟩
theorem one_kid {x : Nd} (h : x.kids.len = 1) : ∃ z, x.kids.list = [z] := by
 rw [← Trees.len_list] at h
 exact List.length_eq_one_iff.1 h
theorem lay_node (x : Nd) (hs : x.size ≤ 100000000) (ha : aloneN x = true) (hn : ∀ y ∈ x.kids.nodes, numsOk y) (hK : KidsC x.kids) : LayC x := by
 intro B cap i base g S m w ht h hb hf
 obtain ⟨a1, a9, a0, ak1, ak9⟩ := aloneN_kids ha
 have hno := numsOk_of ha
 have hlen : x.kids.len ≤ 100000000 := by have := Trees.len_size x.kids; unfold Nd.size at hs; omega
 have ht1 := ht.below ((Below.refl _ _).alloc (Nat.le_refl _) (.cells (ndA x B cap) 28))
 have h1 := h.alloc (.cells (ndA x B cap) 28)
 have hb1 : base ≤ (w.alloc (.cells (ndA x B cap) 28)).heap.size := by simp; omega
 rcases (show x.kind = 1 ∨ x.kind = 2 ∨ x.kind = 3 ∨ x.kind = 4 ∨ x.kind = 5 ∨ x.kind = 6 ∨ x.kind = 7 ∨ x.kind = 8 ∨ x.kind = 9 by omega) with hk | hk | hk | hk | hk | hk | hk | hk | hk
 ·have e : x.lay = nilF := by unfold Nd.lay layK; rw [hk]; rfl
  rw [e] at hf ⊢
  exact lay1 x hk B cap i base g S m w hb _ (Lib.hid (lplain_none x hk B cap i base g S m _ h1 hb1 hf))
 ·have e : x.lay = noF := by unfold Nd.lay layK; rw [hk]; rfl
  rw [e] at hf ⊢
  exact lay2 x hk B cap i base g S m w hb _ (Lib.hid (lplain_empty x hk B cap i base g S m _ h1 hb1))
 ·have e : x.lay = setF x.set := by unfold Nd.lay layK; rw [hk]; rfl
  rw [e] at hf ⊢
  exact lay3 x hk B cap i base g S m w hb _ (Lib.hid (lplain_set x hk B cap i base g S m _ h1 hb1 hf))
 ·have e : x.lay = catF x.kids.lays := by unfold Nd.lay layK; rw [hk]; rfl
  rw [e] at hf ⊢
  exact lay4 x hk B cap i base g S m w hb _ (Lib.hid (lcat_go x hK B cap i base g S m _ ht1 h1 hb1 hf (by omega)))
 ·have e : x.lay = barF x.kids.lays := by unfold Nd.lay layK; rw [hk]; rfl
  rw [e] at hf ⊢
  exact lay5 x hk B cap i base g S m w hb _ (Lib.hid (lalt_go x hK B cap i base g S m _ ht1 h1 hb1 hf (by omega)))
 ·obtain ⟨z, hz⟩ := one_kid (a1 (by omega) (by omega))
  have hd := Trees.lays_head (F := x.kids) (z := z) (by rw [hz]; rfl)
  have e : x.lay = loopF false z.lay := by unfold Nd.lay layK; rw [hk, hd]; rfl
  have hgr : GrowsF z.lay := hK.grows _ (by rw [Trees.lays_list, hz]; simp)
  rw [e] at hf ⊢
  exact lay6 x hk B cap i base g S m w hb _ (Lib.hid (lloop_star x z hz (hK.lay z (by rw [hz]; simp)) hgr hk B cap i base g S m _ ht1 h1 hb1 hf))
 ·obtain ⟨z, hz⟩ := one_kid (a1 (by omega) (by omega))
  have hd := Trees.lays_head (F := x.kids) (z := z) (by rw [hz]; rfl)
  have e : x.lay = loopF true z.lay := by unfold Nd.lay layK; rw [hk, hd]; rfl
  have hgr : GrowsF z.lay := hK.grows _ (by rw [Trees.lays_list, hz]; simp)
  rw [e] at hf ⊢
  exact lay7 x hk B cap i base g S m w hb _ (Lib.hid (lloop_plus x z hz (hK.lay z (by rw [hz]; simp)) hgr hk B cap i base g S m _ ht1 h1 hb1 hf))
 ·obtain ⟨z, hz⟩ := one_kid (a1 (by omega) (by omega))
  have hd := Trees.lays_head (F := x.kids) (z := z) (by rw [hz]; rfl)
  have e : x.lay = optF z.lay := by unfold Nd.lay layK; rw [hk, hd]; rfl
  have hgr : GrowsF z.lay := hK.grows _ (by rw [Trees.lays_list, hz]; simp)
  rw [e] at hf ⊢
  exact lay8 x hk B cap i base g S m w hb _ (Lib.hid (lopt_go x z hz (hK.lay z (by rw [hz]; simp)) hgr hk B cap i base g S m _ ht1 h1 hb1 hf))
 ·obtain ⟨z, hz⟩ := one_kid (a1 (by omega) (by omega))
  have hd := Trees.lays_head (F := x.kids) (z := z) (by rw [hz]; rfl)
  have hw := Trees.headW_list (F := x.kids) (z := z) (by rw [hz]; rfl)
  have e : x.lay = repF z.wgt x.lo x.hi z.lay := by unfold Nd.lay layK; rw [hk, hd, hw]; rfl
  have hgr : GrowsF z.lay := hK.grows _ (by rw [Trees.lays_list, hz]; simp)
  have hzl := hK.lay z (by rw [hz]; simp)
  have hzs : z.size ≤ 140737488355328 := by
   have := Trees.size_get x.kids 0 z (by rw [hz]; rfl)
   unfold Nd.size at hs
   omega
  have hzn : ∀ y ∈ z.nodes, numsOk y := fun y hy => hn y (nodes_kid (i := 0) (by rw [hz]; rfl) y hy)
  obtain ⟨l0, l1, l2, l3⟩ := hno hk
  obtain ⟨_, hrel⟩ := a9 hk
  rw [e] at hf ⊢
  refine lay9 x hk B cap i base g S m w hb _ (Lib.hid ?_)
  by_cases h0 : z.wgt = 0
  ·exact lrep_zero x z hz hzl hgr hzs hzn hk B cap i base g S m _ ht1 h1 hb1 h0
  by_cases hh : x.hi < 0
  ·exact lrep_star x z hz hzl hgr hzs hzn hk B cap i base g S m _ ht1 h1 hb1 h0 l0 l1 hh hf
  by_cases hh2 : x.hi = x.lo
  ·exact lrep_same x z hz hzl hgr hzs hzn hk B cap i base g S m _ ht1 h1 hb1 h0 l0 l1 hh2 hf
  ·exact lrep_up x z hz hzl hgr hzs hzn hk B cap i base g S m _ ht1 h1 hb1 h0 l0 l1 (by omega) l3 hf
theorem lay_all : ∀ (F : Trees), F.size ≤ 100000000 → Okays F → KidsC F
 | .nil, _, _ => ⟨(fun z hz => by cases hz), (fun f hf => by cases hf)⟩
 | .cons k s ks lo hi r, hs, ho => by
  have hks : Okays ks := fun y hy => ho y (by simp [Trees.nodes, hy])
  have hr : Okays r := fun y hy => ho y (by simp [Trees.nodes, hy])
  have hs1 : ks.size ≤ 100000000 ∧ r.size ≤ 100000000 ∧ 1 + ks.size ≤ 100000000 := by simp only [Trees.size] at hs; omega
  have i1 := lay_all ks hs1.1 hks
  have i2 := lay_all r hs1.2.1 hr
  have hself : aloneN ⟨k, s, ks, lo, hi⟩ = true := ho _ (by simp [Trees.nodes])
  refine ⟨fun z hz => ?_, fun f hf => ?_⟩
  ·rw [Trees.list] at hz
   rcases List.mem_cons.1 hz with rfl | hz
   ·exact lay_node ⟨k, s, ks, lo, hi⟩ hs1.2.2 hself (fun y hy => numsOk_of (hks y hy)) i1
   ·exact i2.lay z hz
  ·rw [Trees.lays_list] at hf
   obtain ⟨z, hz, rfl⟩ := List.mem_map.1 hf
   exact (lay_adds _ ho z hz).grows
theorem lay_right {x : Nd} (h : rightT x = true) : LayC x := by
 have ho : Okays (Trees.of [x]) := fun y hy => by
  unfold rightT at h
  rw [Bool.and_eq_true] at h
  refine List.all_eq_true.1 h.2 y ?_
  simpa [Trees.of, Trees.nodes, Nd.nodes] using hy
 refine (lay_all (Trees.of [x]) ?_ ho).lay x (by rw [Trees.list_of]; simp)
 have := rightT_size h
 unfold Nd.size at this
 simp only [Trees.of, Trees.size]
 omega
end Go.Proofs.YtfekpkelmliejaaGreatDoor
