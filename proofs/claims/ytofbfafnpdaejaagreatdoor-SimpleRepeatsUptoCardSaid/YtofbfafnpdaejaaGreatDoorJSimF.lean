/- Texts of the claim. -/
import Derived.StillTailTactics
import Derived.Test.YtofbfafnpdaejaaGreatDoorJSimZ
import Derived.Test.YtofbfafnpdaejaaGreatDoorJSimQ
import Derived.Test.YtofbfafnpdaejaaGreatDoorJZ01
set_option linter.all false
set_option maxRecDepth 100000
set_option maxHeartbeats 8000000
namespace Go.Proofs.YtofbfafnpdaejaaGreatDoor
open Go.RowKit
theorem far8 {w : World} {g h : Nat} {t : TypeId} {cs : Array Value} (hB : Blk w g t cs) (hne : g ≠ h) (a0 a1 a2 a3 a4 a5 a6 a7 : Value) : Blk ((((((((w.setCell ⟨h, 0, none⟩ a0).setCell ⟨h, 1, none⟩ a1).setCell ⟨h, 2, none⟩ a2).setCell ⟨h, 3, none⟩ a3).setCell ⟨h, 4, none⟩ a4).setCell ⟨h, 5, none⟩ a5).setCell ⟨h, 6, none⟩ a6).setCell ⟨h, 7, none⟩ a7) g t cs :=
 (((((((hB.far (p := ⟨h, 0, none⟩) hne a0).far (p := ⟨h, 1, none⟩) hne a1).far (p := ⟨h, 2, none⟩) hne a2).far (p := ⟨h, 3, none⟩) hne a3).far (p := ⟨h, 4, none⟩) hne a4).far (p := ⟨h, 5, none⟩) hne a5).far (p := ⟨h, 6, none⟩) hne a6).far (p := ⟨h, 7, none⟩) hne a7
def OfC (n : Nat) : Prop := ∀ (x : Nd) (P : Nat → Prop) (B : Option Addr) (cap : Nat) (w : World), x.size ≤ n → x.size ≤ 40000000 → (∀ y ∈ x.nodes, OkN y) → x.kids.len ≤ cap → TreesAt w P x.kids B →
 Calls Tryz.prog 72 #[ndV x B cap] w (NewT x.sim w)
noncomputable def sim1 (k : Nd) : List Nd := [k.sim]
theorem enter_of1 (args : Array Value) (W : World) : (callFunc 130 args).run Tryz.prog W = .ok (.enter 130 args) W := enters_go Tryz.func130 (by kernel_rfl) rfl args W
theorem sims_flat (F : Trees) : F.list.flatMap sim1 = F.sims := by
 rw [F.sims_list]
 induction F.list with
 | nil => rfl
 | cons a l ih => rw [List.flatMap_cons, ih, List.map_cons]; rfl
theorem of1_go {n : Nat} (ih : OfC n) (w : World) (x : Nd) (hn : x.size ≤ n) (hs : x.size ≤ 40000000) (ho : ∀ y ∈ x.nodes, OkN y) : ByC 130 #[] sim1 w x := by
 intro C capc W hW hc ht
 have hal : Below W.heap.size W (W.alloc (.cells (ndA x C capc) 28)) := (Below.refl _ _).alloc (Nat.le_refl _) _
 have HX := Lib.hid (Blk.new W 28 (ndA x C capc))
 have HC := Lib.hid (ih x _ C capc (W.alloc (.cells (ndA x C capc) 28)) hn hs ho hc (ht.below hal))
 have HB := Lib.hid hal
 clear ht hal hW ho ih
 unfold ndV at *
 unfold ndA at *
 obtain ⟨p0, p1, p2, p3, p4, p5, p6, p7⟩ : _ ∧ _ ∧ _ ∧ _ ∧ _ ∧ _ ∧ _ ∧ _ := ⟨HX.out.cell 0, HX.out.cell 1, HX.out.cell 2, HX.out.cell 3, HX.out.cell 4, HX.out.cell 5, HX.out.cell 6, HX.out.cell 7⟩
 simp only [getH] at p0 p1 p2 p3 p4 p5 p6 p7
 have pl := HX.out.lt
 go_enter Tryz.func130, Tryz.ntmps130
 go_upto_region 1 with fail
 generalize hW1 : W.alloc (.cells #[.int .i64 x.kind, .int .u64 (word x.set.testBit 0), .int .u64 (word x.set.testBit 1), .int .u64 (word x.set.testBit 2), .int .u64 (word x.set.testBit 3), .slice C x.kids.len capc, .int .i64 x.lo, .int .i64 x.hi] 28) = W1 at *
 have hY := Lib.hid (show sim1 x = [x.sim] from rfl)
 generalize x.sim = y at *
 go_wp2_with fail
 refine HC.out.mono ?_
 rintro e w3 ⟨B3, c3, rfl, hb3, hc3, ht3⟩
 have HB3 := Lib.hid (HB.out.trans (hb3.mono HB.out.size))
 have HT3 := Lib.hid ht3
 have hws : W.heap.size ≤ W1.heap.size := HB.out.size
 clear hb3 HC HB ht3
 unfold ndV
 dsimp only
 go_wp2
 go_light
 go_ret
 rw [hY.out]
 have hbw := (Below.refl w3.heap.size w3).alloc (Nat.le_refl _) (.cells (ndA y B3 c3) 28)
 exact ⟨_, _, rfl, HB3.out.trans (hbw.mono HB3.out.size), Nat.le_refl _, row_oneS (Blk.new w3 _ _) (.inr HB3.out.size) hc3 ((HT3.out.below hbw).weak (fun b h _ => .inr (Nat.le_trans hws h)))⟩
theorem of_start {n : Nat} (ih : OfC n) (x : Nd) (P : Nat → Prop) (B : Option Addr) (cap : Nat) (w : World) (hn : x.size ≤ n + 1) (hs : x.size ≤ 40000000) (ho : ∀ y ∈ x.nodes, OkN y) (ht : TreesAt w P x.kids B) :
  Hid (x.kids.sims.length = x.kids.len) ∧ Hid (∀ z ∈ x.kids.sims, SG z) ∧ Hid (Calls Tryz.prog 75 #[.slice B x.kids.len cap, .func (.func 130) #[] #[]] (W2n w x B cap) fun e w' => ∃ A c, e = .returned (.slice A x.kids.sims.length c) ∧ Below (W2n w x B cap).heap.size (W2n w x B cap) w' ∧ x.kids.sims.length ≤ c ∧ TreesAt w' (fun b => b < w'.heap.size) (Trees.of x.kids.sims) A) ∧
  Hid ((x.kids.sims.map Nd.size).sum ≤ 40000000) ∧ x.kids.size ≤ 40000000 ∧ x.kids.len ≤ x.kids.size := by
 have hks : ∀ z ∈ x.kids.list, ByC 130 #[] sim1 (W2n w x B cap) z := fun z hz => by
  obtain ⟨i, hi⟩ := List.getElem?_of_mem hz
  have := Trees.size_get x.kids i z hi
  unfold Nd.size at hn hs
  exact of1_go ih _ z (by unfold Nd.size at this ⊢; omega) (by unfold Nd.size at this ⊢; omega) (fun y hy => ho y (List.mem_cons_of_mem _ ((nodes_list _ _).2 ⟨z, hz, hy⟩)))
 have hb2 := (two_made w x B cap).1
 have HSL := sims_len x.kids
 have hsz := sims_size x.kids (fun y hy => ho y (List.mem_cons_of_mem _ hy))
 have hkz : x.kids.size ≤ 40000000 := by unfold Nd.size at hs; omega
 have hkl := Trees.len_size x.kids
 exact ⟨Lib.hid HSL, Lib.hid (sims_all x.kids (fun y hy => ho y (List.mem_cons_of_mem _ hy))).1, Lib.hid (sflat_go x.kids B cap (W2n w x B cap) 130 #[] sim1 x.kids.sims (sims_flat x.kids) (by omega) ((ht.below hb2).keep (fun _ _ _ _ => rfl) (fun b _ h => h)) enter_of1 hks (by omega)), Lib.hid (by omega), hkz, hkl⟩
theorem of12 {n : Nat} (ih : OfC n) (x : Nd) (P : Nat → Prop) (B : Option Addr) (cap : Nat) (w : World) (hn : x.size ≤ n + 1) (hs : x.size ≤ 40000000) (ho : ∀ y ∈ x.nodes, OkN y) (hc : x.kids.len ≤ cap) (ht : TreesAt w P x.kids B) (hk : x.kind = 1 ∨ x.kind = 2) : Calls Tryz.prog 72 #[ndV x B cap] w (NewT x.sim w) := by
 have HV := Lib.hid (show x.sim = x by unfold Nd.sim simK; rw [if_neg (by omega)]; rw [if_neg (by omega)]; rw [if_neg (by omega)]; rw [if_neg (by omega)]; rw [if_neg (by omega)]; rw [if_neg (by omega)]; rw [if_neg (by omega)])
 have HNil := Lib.hid (show x.kids = .nil from list_nil (by have := (ho x List.mem_cons_self).2; omega))
 have e3 : (x.kind == 3) = false := kind_no (by omega)
 have e4 : (x.kind == 4) = false := kind_no (by omega)
 have e5 : (x.kind == 5) = false := kind_no (by omega)
 have e6 : (x.kind == 6) = false := kind_no (by omega)
 have e7 : (x.kind == 7) = false := kind_no (by omega)
 have e8 : (x.kind == 8) = false := kind_no (by omega)
 have e9 : (x.kind == 9) = false := kind_no (by omega)
 clear hk
 obtain ⟨HSL, HSG, HF, HSZ, hkz, hkl⟩ := of_start ih x P B cap w hn hs ho ht
 obtain ⟨hb2, HB2, HX2, HZ2, HW2⟩ := two_hid w x B cap
 clear ht hb2 ih hn ho
 generalize x.kids.sims = L at *
 unfold ndV at *
 unfold ndA at *
 obtain ⟨x0, x1, x2, x3, x4, x5, x6, x7, hl2⟩ := (HX2.out).c8n
 go_enter Tryz.func72, Tryz.ntmps72
 go_upto_region 1 with fail
 rw [← W2n_lit w x B cap]
 generalize W2n w x B cap = w2 at *
 go_wp2_with fail
 refine HF.out.mono ?_
 rintro e w3 ⟨A3, c3, rfl, hb3, hc3, ht3⟩
 have HX3 := Lib.hid (HX2.out.below hb3 HX2.out.lt)
 have HZ3 := Lib.hid (HZ2.out.below hb3 HZ2.out.lt)
 have HB3 := Lib.hid (HB2.out.trans (hb3.mono HB2.out.size))
 have HT3 := Lib.hid ht3
 have hw3 : w.heap.size + 2 ≤ w3.heap.size := Nat.le_trans HW2.out hb3.size
 clear hb3 ht3 HF x0 x1 x2 x3 x4 x5 x6 x7 hl2 HX2 HZ2 HB2
 obtain ⟨x0, x1, x2, x3, x4, x5, x6, x7, hl2⟩ := (HX3.out).c8n
 dsimp only
 obtain ⟨y0, y1, y2, y3, y4, y5, y6, y7, g0, g1, g2, g3, g4, g5, g6, g7⟩ := HZ3.out.z16
 go_wp2
 go_light
 have hF := put_next (x := x) (B := B) (cap := cap) HZ3.out HB3.out (by rw [HNil.out]; trivial) rfl
 refine bodyPost_ret (ret_node Tryz.results72 rfl hF.1) rfl ?_
 rw [HV.out]
 exact ⟨B, cap, rfl, hF.2.1, hc, hF.2.2⟩
theorem noset_words {s : Nat} (h : isNoSet s = true) : word s.testBit 0 = 0 ∧ word s.testBit 1 = 0 ∧ word s.testBit 2 = 0 ∧ word s.testBit 3 = 0 := by
 unfold isNoSet at h
 simpa using h
theorem of3n {n : Nat} (ih : OfC n) (x : Nd) (P : Nat → Prop) (B : Option Addr) (cap : Nat) (w : World) (hn : x.size ≤ n + 1) (hs : x.size ≤ 40000000) (ho : ∀ y ∈ x.nodes, OkN y) (hc : x.kids.len ≤ cap) (ht : TreesAt w P x.kids B) (hk : x.kind = 3) (hset : isNoSet x.set = true) : Calls Tryz.prog 72 #[ndV x B cap] w (NewT x.sim w) := by
 have HV := Lib.hid (show x.sim = noneN by unfold Nd.sim simK; rw [if_pos hk, if_pos hset])
 have HWs := Lib.hid (noset_words hset)
 have e3 := kind_yes hk
 clear hk hset
 obtain ⟨HSL, HSG, HF, HSZ, hkz, hkl⟩ := of_start ih x P B cap w hn hs ho ht
 obtain ⟨hb2, HB2, HX2, HZ2, HW2⟩ := two_hid w x B cap
 clear ht hb2 ih hn ho
 generalize x.kids.sims = L at *
 unfold ndV at *
 unfold ndA at *
 obtain ⟨x0, x1, x2, x3, x4, x5, x6, x7, hl2⟩ := (HX2.out).c8n
 go_enter Tryz.func72, Tryz.ntmps72
 go_upto_region 1 with fail
 rw [← W2n_lit w x B cap]
 generalize W2n w x B cap = w2 at *
 go_wp2_with fail
 refine HF.out.mono ?_
 rintro e w3 ⟨A3, c3, rfl, hb3, hc3, ht3⟩
 have HX3 := Lib.hid (HX2.out.below hb3 HX2.out.lt)
 have HZ3 := Lib.hid (HZ2.out.below hb3 HZ2.out.lt)
 have HB3 := Lib.hid (HB2.out.trans (hb3.mono HB2.out.size))
 have HT3 := Lib.hid ht3
 have hw3 : w.heap.size + 2 ≤ w3.heap.size := Nat.le_trans HW2.out hb3.size
 clear hb3 ht3 HF x0 x1 x2 x3 x4 x5 x6 x7 hl2 HX2 HZ2 HB2
 obtain ⟨x0, x1, x2, x3, x4, x5, x6, x7, hl2⟩ := (HX3.out).c8n
 dsimp only
 obtain ⟨n0, n1, n2, n3⟩ := HWs.out
 rw [n0] at x1
 rw [n1] at x2
 rw [n2] at x3
 rw [n3] at x4
 have HI := Lib.hid (none_new w3)
 go_wp2_with fail
 refine HI.out.mono ?_
 rintro e w9 ⟨B9, c9, rfl, hb9, hc9, ht9⟩
 have hZ9 := HZ3.out.below hb9 HZ3.out.lt
 have HB9 := Lib.hid (HB3.out.trans (hb9.mono HB3.out.size))
 have HZ9 := Lib.hid hZ9
 have HT9 := Lib.hid (ht9.weak (Q := fun b => w.heap.size + 2 ≤ b) (fun b hb _ => by omega))
 obtain ⟨y0, y1, y2, y3, y4, y5, y6, y7, g0, g1, g2, g3, g4, g5, g6, g7⟩ := hZ9.z16
 clear hZ9 ht9 hb9 HI HZ3 HB3 HX3 x0 x1 x2 x3 x4 x5 x6 x7 hl2 HT3 HSG HSZ
 generalize hy : noneN = y at *
 have HY := Lib.hid hy
 clear hy
 unfold ndV
 dsimp only
 go_wp2
 go_light
 have hF := put_next (x := y) (B := B9) (cap := c9) HZ9.out HB9.out HT9.out rfl
 refine bodyPost_ret (ret_node Tryz.results72 rfl hF.1) rfl ?_
 rw [HV.out]
 exact ⟨B9, c9, rfl, hF.2.1, hc9, hF.2.2⟩
theorem of3_0 {n : Nat} (ih : OfC n) (x : Nd) (P : Nat → Prop) (B : Option Addr) (cap : Nat) (w : World) (hn : x.size ≤ n + 1) (hs : x.size ≤ 40000000) (ho : ∀ y ∈ x.nodes, OkN y) (hc : x.kids.len ≤ cap) (ht : TreesAt w P x.kids B) (hk : x.kind = 3) (hset : ¬ isNoSet x.set = true) (h0 : (((word x.set.testBit 0 : Nat) : Int) == 0) = false) : Calls Tryz.prog 72 #[ndV x B cap] w (NewT x.sim w) := by
 have HV := Lib.hid (show x.sim = x by unfold Nd.sim simK; rw [if_pos hk, if_neg hset])
 have HNil := Lib.hid (show x.kids = .nil from list_nil (by have := (ho x List.mem_cons_self).2; omega))
 have e3 := kind_yes hk
 clear hk hset
 obtain ⟨HSL, HSG, HF, HSZ, hkz, hkl⟩ := of_start ih x P B cap w hn hs ho ht
 obtain ⟨hb2, HB2, HX2, HZ2, HW2⟩ := two_hid w x B cap
 clear ht hb2 ih hn ho
 generalize x.kids.sims = L at *
 unfold ndV at *
 unfold ndA at *
 obtain ⟨x0, x1, x2, x3, x4, x5, x6, x7, hl2⟩ := (HX2.out).c8n
 go_enter Tryz.func72, Tryz.ntmps72
 go_upto_region 1 with fail
 rw [← W2n_lit w x B cap]
 generalize W2n w x B cap = w2 at *
 go_wp2_with fail
 refine HF.out.mono ?_
 rintro e w3 ⟨A3, c3, rfl, hb3, hc3, ht3⟩
 have HX3 := Lib.hid (HX2.out.below hb3 HX2.out.lt)
 have HZ3 := Lib.hid (HZ2.out.below hb3 HZ2.out.lt)
 have HB3 := Lib.hid (HB2.out.trans (hb3.mono HB2.out.size))
 have HT3 := Lib.hid ht3
 have hw3 : w.heap.size + 2 ≤ w3.heap.size := Nat.le_trans HW2.out hb3.size
 clear hb3 ht3 HF x0 x1 x2 x3 x4 x5 x6 x7 hl2 HX2 HZ2 HB2
 obtain ⟨x0, x1, x2, x3, x4, x5, x6, x7, hl2⟩ := (HX3.out).c8n
 dsimp only
 obtain ⟨y0, y1, y2, y3, y4, y5, y6, y7, g0, g1, g2, g3, g4, g5, g6, g7⟩ := HZ3.out.z16
 go_wp2
 go_light
 have hF := put_next (x := x) (B := B) (cap := cap) HZ3.out HB3.out (by rw [HNil.out]; trivial) rfl
 refine bodyPost_ret (ret_node Tryz.results72 rfl hF.1) rfl ?_
 rw [HV.out]
 exact ⟨B, cap, rfl, hF.2.1, hc, hF.2.2⟩
theorem of3_1 {n : Nat} (ih : OfC n) (x : Nd) (P : Nat → Prop) (B : Option Addr) (cap : Nat) (w : World) (hn : x.size ≤ n + 1) (hs : x.size ≤ 40000000) (ho : ∀ y ∈ x.nodes, OkN y) (hc : x.kids.len ≤ cap) (ht : TreesAt w P x.kids B) (hk : x.kind = 3) (hset : ¬ isNoSet x.set = true) (h0 : (((word x.set.testBit 0 : Nat) : Int) == 0) = true) (h1 : (((word x.set.testBit 1 : Nat) : Int) == 0) = false) : Calls Tryz.prog 72 #[ndV x B cap] w (NewT x.sim w) := by
 have HV := Lib.hid (show x.sim = x by unfold Nd.sim simK; rw [if_pos hk, if_neg hset])
 have HNil := Lib.hid (show x.kids = .nil from list_nil (by have := (ho x List.mem_cons_self).2; omega))
 have e3 := kind_yes hk
 clear hk hset
 obtain ⟨HSL, HSG, HF, HSZ, hkz, hkl⟩ := of_start ih x P B cap w hn hs ho ht
 obtain ⟨hb2, HB2, HX2, HZ2, HW2⟩ := two_hid w x B cap
 clear ht hb2 ih hn ho
 generalize x.kids.sims = L at *
 unfold ndV at *
 unfold ndA at *
 obtain ⟨x0, x1, x2, x3, x4, x5, x6, x7, hl2⟩ := (HX2.out).c8n
 go_enter Tryz.func72, Tryz.ntmps72
 go_upto_region 1 with fail
 rw [← W2n_lit w x B cap]
 generalize W2n w x B cap = w2 at *
 go_wp2_with fail
 refine HF.out.mono ?_
 rintro e w3 ⟨A3, c3, rfl, hb3, hc3, ht3⟩
 have HX3 := Lib.hid (HX2.out.below hb3 HX2.out.lt)
 have HZ3 := Lib.hid (HZ2.out.below hb3 HZ2.out.lt)
 have HB3 := Lib.hid (HB2.out.trans (hb3.mono HB2.out.size))
 have HT3 := Lib.hid ht3
 have hw3 : w.heap.size + 2 ≤ w3.heap.size := Nat.le_trans HW2.out hb3.size
 clear hb3 ht3 HF x0 x1 x2 x3 x4 x5 x6 x7 hl2 HX2 HZ2 HB2
 obtain ⟨x0, x1, x2, x3, x4, x5, x6, x7, hl2⟩ := (HX3.out).c8n
 dsimp only
 obtain ⟨y0, y1, y2, y3, y4, y5, y6, y7, g0, g1, g2, g3, g4, g5, g6, g7⟩ := HZ3.out.z16
 go_wp2
 go_light
 have hF := put_next (x := x) (B := B) (cap := cap) HZ3.out HB3.out (by rw [HNil.out]; trivial) rfl
 refine bodyPost_ret (ret_node Tryz.results72 rfl hF.1) rfl ?_
 rw [HV.out]
 exact ⟨B, cap, rfl, hF.2.1, hc, hF.2.2⟩
theorem of3_2 {n : Nat} (ih : OfC n) (x : Nd) (P : Nat → Prop) (B : Option Addr) (cap : Nat) (w : World) (hn : x.size ≤ n + 1) (hs : x.size ≤ 40000000) (ho : ∀ y ∈ x.nodes, OkN y) (hc : x.kids.len ≤ cap) (ht : TreesAt w P x.kids B) (hk : x.kind = 3) (hset : ¬ isNoSet x.set = true) (h0 : (((word x.set.testBit 0 : Nat) : Int) == 0) = true) (h1 : (((word x.set.testBit 1 : Nat) : Int) == 0) = true) (h2 : (((word x.set.testBit 2 : Nat) : Int) == 0) = false) : Calls Tryz.prog 72 #[ndV x B cap] w (NewT x.sim w) := by
 have HV := Lib.hid (show x.sim = x by unfold Nd.sim simK; rw [if_pos hk, if_neg hset])
 have HNil := Lib.hid (show x.kids = .nil from list_nil (by have := (ho x List.mem_cons_self).2; omega))
 have e3 := kind_yes hk
 clear hk hset
 obtain ⟨HSL, HSG, HF, HSZ, hkz, hkl⟩ := of_start ih x P B cap w hn hs ho ht
 obtain ⟨hb2, HB2, HX2, HZ2, HW2⟩ := two_hid w x B cap
 clear ht hb2 ih hn ho
 generalize x.kids.sims = L at *
 unfold ndV at *
 unfold ndA at *
 obtain ⟨x0, x1, x2, x3, x4, x5, x6, x7, hl2⟩ := (HX2.out).c8n
 go_enter Tryz.func72, Tryz.ntmps72
 go_upto_region 1 with fail
 rw [← W2n_lit w x B cap]
 generalize W2n w x B cap = w2 at *
 go_wp2_with fail
 refine HF.out.mono ?_
 rintro e w3 ⟨A3, c3, rfl, hb3, hc3, ht3⟩
 have HX3 := Lib.hid (HX2.out.below hb3 HX2.out.lt)
 have HZ3 := Lib.hid (HZ2.out.below hb3 HZ2.out.lt)
 have HB3 := Lib.hid (HB2.out.trans (hb3.mono HB2.out.size))
 have HT3 := Lib.hid ht3
 have hw3 : w.heap.size + 2 ≤ w3.heap.size := Nat.le_trans HW2.out hb3.size
 clear hb3 ht3 HF x0 x1 x2 x3 x4 x5 x6 x7 hl2 HX2 HZ2 HB2
 obtain ⟨x0, x1, x2, x3, x4, x5, x6, x7, hl2⟩ := (HX3.out).c8n
 dsimp only
 obtain ⟨y0, y1, y2, y3, y4, y5, y6, y7, g0, g1, g2, g3, g4, g5, g6, g7⟩ := HZ3.out.z16
 go_wp2
 go_light
 have hF := put_next (x := x) (B := B) (cap := cap) HZ3.out HB3.out (by rw [HNil.out]; trivial) rfl
 refine bodyPost_ret (ret_node Tryz.results72 rfl hF.1) rfl ?_
 rw [HV.out]
 exact ⟨B, cap, rfl, hF.2.1, hc, hF.2.2⟩
theorem of3_3 {n : Nat} (ih : OfC n) (x : Nd) (P : Nat → Prop) (B : Option Addr) (cap : Nat) (w : World) (hn : x.size ≤ n + 1) (hs : x.size ≤ 40000000) (ho : ∀ y ∈ x.nodes, OkN y) (hc : x.kids.len ≤ cap) (ht : TreesAt w P x.kids B) (hk : x.kind = 3) (hset : ¬ isNoSet x.set = true) (h0 : (((word x.set.testBit 0 : Nat) : Int) == 0) = true) (h1 : (((word x.set.testBit 1 : Nat) : Int) == 0) = true) (h2 : (((word x.set.testBit 2 : Nat) : Int) == 0) = true) (h3 : (((word x.set.testBit 3 : Nat) : Int) == 0) = false) : Calls Tryz.prog 72 #[ndV x B cap] w (NewT x.sim w) := by
 have HV := Lib.hid (show x.sim = x by unfold Nd.sim simK; rw [if_pos hk, if_neg hset])
 have HNil := Lib.hid (show x.kids = .nil from list_nil (by have := (ho x List.mem_cons_self).2; omega))
 have e3 := kind_yes hk
 clear hk hset
 obtain ⟨HSL, HSG, HF, HSZ, hkz, hkl⟩ := of_start ih x P B cap w hn hs ho ht
 obtain ⟨hb2, HB2, HX2, HZ2, HW2⟩ := two_hid w x B cap
 clear ht hb2 ih hn ho
 generalize x.kids.sims = L at *
 unfold ndV at *
 unfold ndA at *
 obtain ⟨x0, x1, x2, x3, x4, x5, x6, x7, hl2⟩ := (HX2.out).c8n
 go_enter Tryz.func72, Tryz.ntmps72
 go_upto_region 1 with fail
 rw [← W2n_lit w x B cap]
 generalize W2n w x B cap = w2 at *
 go_wp2_with fail
 refine HF.out.mono ?_
 rintro e w3 ⟨A3, c3, rfl, hb3, hc3, ht3⟩
 have HX3 := Lib.hid (HX2.out.below hb3 HX2.out.lt)
 have HZ3 := Lib.hid (HZ2.out.below hb3 HZ2.out.lt)
 have HB3 := Lib.hid (HB2.out.trans (hb3.mono HB2.out.size))
 have HT3 := Lib.hid ht3
 have hw3 : w.heap.size + 2 ≤ w3.heap.size := Nat.le_trans HW2.out hb3.size
 clear hb3 ht3 HF x0 x1 x2 x3 x4 x5 x6 x7 hl2 HX2 HZ2 HB2
 obtain ⟨x0, x1, x2, x3, x4, x5, x6, x7, hl2⟩ := (HX3.out).c8n
 dsimp only
 obtain ⟨y0, y1, y2, y3, y4, y5, y6, y7, g0, g1, g2, g3, g4, g5, g6, g7⟩ := HZ3.out.z16
 go_wp2
 go_light
 have hF := put_next (x := x) (B := B) (cap := cap) HZ3.out HB3.out (by rw [HNil.out]; trivial) rfl
 refine bodyPost_ret (ret_node Tryz.results72 rfl hF.1) rfl ?_
 rw [HV.out]
 exact ⟨B, cap, rfl, hF.2.1, hc, hF.2.2⟩
theorem of4 {n : Nat} (ih : OfC n) (x : Nd) (P : Nat → Prop) (B : Option Addr) (cap : Nat) (w : World) (hn : x.size ≤ n + 1) (hs : x.size ≤ 40000000) (ho : ∀ y ∈ x.nodes, OkN y) (hc : x.kids.len ≤ cap) (ht : TreesAt w P x.kids B) (hk : x.kind = 4) : Calls Tryz.prog 72 #[ndV x B cap] w (NewT x.sim w) := by
 have HV := Lib.hid (show x.sim = catP x.kids.sims by unfold Nd.sim simK; rw [if_neg (by omega)]; rw [if_pos (by omega)])
 have e3 : (x.kind == 3) = false := kind_no (by omega)
 have e4 : (x.kind == 4) = true := kind_yes hk
 clear hk
 obtain ⟨HSL, HSG, HF, HSZ, hkz, hkl⟩ := of_start ih x P B cap w hn hs ho ht
 obtain ⟨hb2, HB2, HX2, HZ2, HW2⟩ := two_hid w x B cap
 clear ht hb2 ih hn ho
 generalize x.kids.sims = L at *
 unfold ndV at *
 unfold ndA at *
 obtain ⟨x0, x1, x2, x3, x4, x5, x6, x7, hl2⟩ := (HX2.out).c8n
 go_enter Tryz.func72, Tryz.ntmps72
 go_upto_region 1 with fail
 rw [← W2n_lit w x B cap]
 generalize W2n w x B cap = w2 at *
 go_wp2_with fail
 refine HF.out.mono ?_
 rintro e w3 ⟨A3, c3, rfl, hb3, hc3, ht3⟩
 have HX3 := Lib.hid (HX2.out.below hb3 HX2.out.lt)
 have HZ3 := Lib.hid (HZ2.out.below hb3 HZ2.out.lt)
 have HB3 := Lib.hid (HB2.out.trans (hb3.mono HB2.out.size))
 have HT3 := Lib.hid ht3
 have hw3 : w.heap.size + 2 ≤ w3.heap.size := Nat.le_trans HW2.out hb3.size
 clear hb3 ht3 HF x0 x1 x2 x3 x4 x5 x6 x7 hl2 HX2 HZ2 HB2
 obtain ⟨x0, x1, x2, x3, x4, x5, x6, x7, hl2⟩ := (HX3.out).c8n
 dsimp only
 have hi := scat_go (Trees.of L) A3 c3 w3 (by rw [size_ofS]; have := HSZ.out; omega) HT3.out
 rw [Trees.len_of, Trees.list_of] at hi
 have HI := Lib.hid hi
 clear hi
 go_wp2_with fail
 refine HI.out.mono ?_
 rintro e w9 ⟨B9, c9, rfl, hb9, hc9, ht9⟩
 have hZ9 := HZ3.out.below hb9 HZ3.out.lt
 have HB9 := Lib.hid (HB3.out.trans (hb9.mono HB3.out.size))
 have HZ9 := Lib.hid hZ9
 have HT9 := Lib.hid (ht9.weak (Q := fun b => w.heap.size + 2 ≤ b) (fun b hb _ => by omega))
 obtain ⟨y0, y1, y2, y3, y4, y5, y6, y7, g0, g1, g2, g3, g4, g5, g6, g7⟩ := hZ9.z16
 clear hZ9 ht9 hb9 HI HZ3 HB3 HX3 x0 x1 x2 x3 x4 x5 x6 x7 hl2 HT3 HSG HSZ
 generalize hy : catP L = y at *
 have HY := Lib.hid hy
 clear hy
 unfold ndV
 dsimp only
 go_wp2
 go_light
 have hF := put_next (x := y) (B := B9) (cap := c9) HZ9.out HB9.out HT9.out rfl
 refine bodyPost_ret (ret_node Tryz.results72 rfl hF.1) rfl ?_
 rw [HV.out]
 exact ⟨B9, c9, rfl, hF.2.1, hc9, hF.2.2⟩
theorem of5 {n : Nat} (ih : OfC n) (x : Nd) (P : Nat → Prop) (B : Option Addr) (cap : Nat) (w : World) (hn : x.size ≤ n + 1) (hs : x.size ≤ 40000000) (ho : ∀ y ∈ x.nodes, OkN y) (hc : x.kids.len ≤ cap) (ht : TreesAt w P x.kids B) (hk : x.kind = 5) : Calls Tryz.prog 72 #[ndV x B cap] w (NewT x.sim w) := by
 have HV := Lib.hid (show x.sim = altP x.kids.sims by unfold Nd.sim simK; rw [if_neg (by omega)]; rw [if_neg (by omega)]; rw [if_pos (by omega)])
 have e3 : (x.kind == 3) = false := kind_no (by omega)
 have e4 : (x.kind == 4) = false := kind_no (by omega)
 have e5 : (x.kind == 5) = true := kind_yes hk
 clear hk
 obtain ⟨HSL, HSG, HF, HSZ, hkz, hkl⟩ := of_start ih x P B cap w hn hs ho ht
 obtain ⟨hb2, HB2, HX2, HZ2, HW2⟩ := two_hid w x B cap
 clear ht hb2 ih hn ho
 generalize x.kids.sims = L at *
 unfold ndV at *
 unfold ndA at *
 obtain ⟨x0, x1, x2, x3, x4, x5, x6, x7, hl2⟩ := (HX2.out).c8n
 go_enter Tryz.func72, Tryz.ntmps72
 go_upto_region 1 with fail
 rw [← W2n_lit w x B cap]
 generalize W2n w x B cap = w2 at *
 go_wp2_with fail
 refine HF.out.mono ?_
 rintro e w3 ⟨A3, c3, rfl, hb3, hc3, ht3⟩
 have HX3 := Lib.hid (HX2.out.below hb3 HX2.out.lt)
 have HZ3 := Lib.hid (HZ2.out.below hb3 HZ2.out.lt)
 have HB3 := Lib.hid (HB2.out.trans (hb3.mono HB2.out.size))
 have HT3 := Lib.hid ht3
 have hw3 : w.heap.size + 2 ≤ w3.heap.size := Nat.le_trans HW2.out hb3.size
 clear hb3 ht3 HF x0 x1 x2 x3 x4 x5 x6 x7 hl2 HX2 HZ2 HB2
 obtain ⟨x0, x1, x2, x3, x4, x5, x6, x7, hl2⟩ := (HX3.out).c8n
 dsimp only
 have hi := salt_go (Trees.of L) A3 c3 w3 (by rw [size_ofS]; have := HSZ.out; omega) (by rw [Trees.list_of]; exact HSG.out) HT3.out
 rw [Trees.len_of, Trees.list_of] at hi
 have HI := Lib.hid hi
 clear hi
 go_wp2_with fail
 refine HI.out.mono ?_
 rintro e w9 ⟨B9, c9, rfl, hb9, hc9, ht9⟩
 have hZ9 := HZ3.out.below hb9 HZ3.out.lt
 have HB9 := Lib.hid (HB3.out.trans (hb9.mono HB3.out.size))
 have HZ9 := Lib.hid hZ9
 have HT9 := Lib.hid (ht9.weak (Q := fun b => w.heap.size + 2 ≤ b) (fun b hb _ => by omega))
 obtain ⟨y0, y1, y2, y3, y4, y5, y6, y7, g0, g1, g2, g3, g4, g5, g6, g7⟩ := hZ9.z16
 clear hZ9 ht9 hb9 HI HZ3 HB3 HX3 x0 x1 x2 x3 x4 x5 x6 x7 hl2 HT3 HSG HSZ
 generalize hy : altP L = y at *
 have HY := Lib.hid hy
 clear hy
 unfold ndV
 dsimp only
 go_wp2
 go_light
 have hF := put_next (x := y) (B := B9) (cap := c9) HZ9.out HB9.out HT9.out rfl
 refine bodyPost_ret (ret_node Tryz.results72 rfl hF.1) rfl ?_
 rw [HV.out]
 exact ⟨B9, c9, rfl, hF.2.1, hc9, hF.2.2⟩
theorem of6 {n : Nat} (ih : OfC n) (x : Nd) (P : Nat → Prop) (B : Option Addr) (cap : Nat) (w : World) (hn : x.size ≤ n + 1) (hs : x.size ≤ 40000000) (ho : ∀ y ∈ x.nodes, OkN y) (hc : x.kids.len ≤ cap) (ht : TreesAt w P x.kids B) (hk : x.kind = 6) : Calls Tryz.prog 72 #[ndV x B cap] w (NewT x.sim w) := by
 have HV := Lib.hid (show x.sim = starP (x.kids.sims.headD noneN) by unfold Nd.sim simK; rw [if_neg (by omega)]; rw [if_neg (by omega)]; rw [if_neg (by omega)]; rw [if_pos (by omega)])
 have HONE := Lib.hid (show x.kids.len = 1 by have := (ho x List.mem_cons_self).2; omega)
 have e3 : (x.kind == 3) = false := kind_no (by omega)
 have e4 : (x.kind == 4) = false := kind_no (by omega)
 have e5 : (x.kind == 5) = false := kind_no (by omega)
 have e6 : (x.kind == 6) = true := kind_yes hk
 clear hk
 obtain ⟨HSL, HSG, HF, HSZ, hkz, hkl⟩ := of_start ih x P B cap w hn hs ho ht
 obtain ⟨hb2, HB2, HX2, HZ2, HW2⟩ := two_hid w x B cap
 clear ht hb2 ih hn ho
 generalize x.kids.sims = L at *
 unfold ndV at *
 unfold ndA at *
 obtain ⟨x0, x1, x2, x3, x4, x5, x6, x7, hl2⟩ := (HX2.out).c8n
 go_enter Tryz.func72, Tryz.ntmps72
 go_upto_region 1 with fail
 rw [← W2n_lit w x B cap]
 generalize W2n w x B cap = w2 at *
 go_wp2_with fail
 refine HF.out.mono ?_
 rintro e w3 ⟨A3, c3, rfl, hb3, hc3, ht3⟩
 have HX3 := Lib.hid (HX2.out.below hb3 HX2.out.lt)
 have HZ3 := Lib.hid (HZ2.out.below hb3 HZ2.out.lt)
 have HB3 := Lib.hid (HB2.out.trans (hb3.mono HB2.out.size))
 have HT3 := Lib.hid ht3
 have hw3 : w.heap.size + 2 ≤ w3.heap.size := Nat.le_trans HW2.out hb3.size
 clear hb3 ht3 HF x0 x1 x2 x3 x4 x5 x6 x7 hl2 HX2 HZ2 HB2
 obtain ⟨x0, x1, x2, x3, x4, x5, x6, x7, hl2⟩ := (HX3.out).c8n
 dsimp only
 obtain ⟨z, hz⟩ : ∃ z, L = [z] := List.length_eq_one_iff.1 (by rw [HSL.out]; exact HONE.out)
 have hg : (Trees.of L).list[0]? = some z := by rw [Trees.list_of, hz]; rfl
 obtain ⟨b, o, C, capc, hBe, _, hck, ⟨c0, c1, c2, c3', c4, c5, c6, c7⟩, hkz3⟩ := HT3.out.get hg
 simp only [Nat.zero_mul, Nat.add_zero] at c0 c1 c2 c3' c4 c5 c6 c7
 have hbl := World.block_lt_of_cell? _ _ c0
 have hzs : z.size ≤ 90000000 := by have := mem_size (show z ∈ L by rw [hz]; simp); have := HSZ.out; omega
 have hzo : OkN z := (sg_iff.1 (HSG.out z (by rw [hz]; simp))).1.1
 have hd0 : (0 : Int) < (L.length : Int) := by rw [hz]; simp
 have hdn : 0 < L.length := by rw [hz]; simp
 have hhd : L.headD noneN = z := by rw [hz]; rfl
 rw [hhd] at HV
 subst hBe
 clear hz hg hhd
 have HI := Lib.hid (sstar_go z _ C capc w3 hzs hkz3 hzo)
 unfold ndV at HI
 go_wp2_with fail
 refine HI.out.mono ?_
 rintro e w9 ⟨B9, c9, rfl, hb9, hc9, ht9⟩
 have hZ9 := HZ3.out.below hb9 HZ3.out.lt
 have HB9 := Lib.hid (HB3.out.trans (hb9.mono HB3.out.size))
 have HZ9 := Lib.hid hZ9
 have HT9 := Lib.hid (ht9.weak (Q := fun b => w.heap.size + 2 ≤ b) (fun b hb _ => by omega))
 obtain ⟨y0, y1, y2, y3, y4, y5, y6, y7, g0, g1, g2, g3, g4, g5, g6, g7⟩ := hZ9.z16
 clear hZ9 ht9 hb9 HI HZ3 HB3 HX3 x0 x1 x2 x3 x4 x5 x6 x7 hl2 HT3 HSG HSZ
 generalize hy : starP z = y at *
 have HY := Lib.hid hy
 clear hy
 unfold ndV
 dsimp only
 go_wp2
 go_light
 have hF := put_next (x := y) (B := B9) (cap := c9) HZ9.out HB9.out HT9.out rfl
 refine bodyPost_ret (ret_node Tryz.results72 rfl hF.1) rfl ?_
 rw [HV.out]
 exact ⟨B9, c9, rfl, hF.2.1, hc9, hF.2.2⟩
theorem of7 {n : Nat} (ih : OfC n) (x : Nd) (P : Nat → Prop) (B : Option Addr) (cap : Nat) (w : World) (hn : x.size ≤ n + 1) (hs : x.size ≤ 40000000) (ho : ∀ y ∈ x.nodes, OkN y) (hc : x.kids.len ≤ cap) (ht : TreesAt w P x.kids B) (hk : x.kind = 7) : Calls Tryz.prog 72 #[ndV x B cap] w (NewT x.sim w) := by
 have HV := Lib.hid (show x.sim = plusP (x.kids.sims.headD noneN) by unfold Nd.sim simK; rw [if_neg (by omega)]; rw [if_neg (by omega)]; rw [if_neg (by omega)]; rw [if_neg (by omega)]; rw [if_pos (by omega)])
 have HONE := Lib.hid (show x.kids.len = 1 by have := (ho x List.mem_cons_self).2; omega)
 have e3 : (x.kind == 3) = false := kind_no (by omega)
 have e4 : (x.kind == 4) = false := kind_no (by omega)
 have e5 : (x.kind == 5) = false := kind_no (by omega)
 have e6 : (x.kind == 6) = false := kind_no (by omega)
 have e7 : (x.kind == 7) = true := kind_yes hk
 clear hk
 obtain ⟨HSL, HSG, HF, HSZ, hkz, hkl⟩ := of_start ih x P B cap w hn hs ho ht
 obtain ⟨hb2, HB2, HX2, HZ2, HW2⟩ := two_hid w x B cap
 clear ht hb2 ih hn ho
 generalize x.kids.sims = L at *
 unfold ndV at *
 unfold ndA at *
 obtain ⟨x0, x1, x2, x3, x4, x5, x6, x7, hl2⟩ := (HX2.out).c8n
 go_enter Tryz.func72, Tryz.ntmps72
 go_upto_region 1 with fail
 rw [← W2n_lit w x B cap]
 generalize W2n w x B cap = w2 at *
 go_wp2_with fail
 refine HF.out.mono ?_
 rintro e w3 ⟨A3, c3, rfl, hb3, hc3, ht3⟩
 have HX3 := Lib.hid (HX2.out.below hb3 HX2.out.lt)
 have HZ3 := Lib.hid (HZ2.out.below hb3 HZ2.out.lt)
 have HB3 := Lib.hid (HB2.out.trans (hb3.mono HB2.out.size))
 have HT3 := Lib.hid ht3
 have hw3 : w.heap.size + 2 ≤ w3.heap.size := Nat.le_trans HW2.out hb3.size
 clear hb3 ht3 HF x0 x1 x2 x3 x4 x5 x6 x7 hl2 HX2 HZ2 HB2
 obtain ⟨x0, x1, x2, x3, x4, x5, x6, x7, hl2⟩ := (HX3.out).c8n
 dsimp only
 obtain ⟨z, hz⟩ : ∃ z, L = [z] := List.length_eq_one_iff.1 (by rw [HSL.out]; exact HONE.out)
 have hg : (Trees.of L).list[0]? = some z := by rw [Trees.list_of, hz]; rfl
 obtain ⟨b, o, C, capc, hBe, _, hck, ⟨c0, c1, c2, c3', c4, c5, c6, c7⟩, hkz3⟩ := HT3.out.get hg
 simp only [Nat.zero_mul, Nat.add_zero] at c0 c1 c2 c3' c4 c5 c6 c7
 have hbl := World.block_lt_of_cell? _ _ c0
 have hzs : z.size ≤ 90000000 := by have := mem_size (show z ∈ L by rw [hz]; simp); have := HSZ.out; omega
 have hzo : OkN z := (sg_iff.1 (HSG.out z (by rw [hz]; simp))).1.1
 have hd0 : (0 : Int) < (L.length : Int) := by rw [hz]; simp
 have hdn : 0 < L.length := by rw [hz]; simp
 have hhd : L.headD noneN = z := by rw [hz]; rfl
 rw [hhd] at HV
 subst hBe
 clear hz hg hhd
 have HI := Lib.hid (splus_go z _ C capc w3 hzs hkz3 hzo)
 unfold ndV at HI
 go_wp2_with fail
 refine HI.out.mono ?_
 rintro e w9 ⟨B9, c9, rfl, hb9, hc9, ht9⟩
 have hZ9 := HZ3.out.below hb9 HZ3.out.lt
 have HB9 := Lib.hid (HB3.out.trans (hb9.mono HB3.out.size))
 have HZ9 := Lib.hid hZ9
 have HT9 := Lib.hid (ht9.weak (Q := fun b => w.heap.size + 2 ≤ b) (fun b hb _ => by omega))
 obtain ⟨y0, y1, y2, y3, y4, y5, y6, y7, g0, g1, g2, g3, g4, g5, g6, g7⟩ := hZ9.z16
 clear hZ9 ht9 hb9 HI HZ3 HB3 HX3 x0 x1 x2 x3 x4 x5 x6 x7 hl2 HT3 HSG HSZ
 generalize hy : plusP z = y at *
 have HY := Lib.hid hy
 clear hy
 unfold ndV
 dsimp only
 go_wp2
 go_light
 have hF := put_next (x := y) (B := B9) (cap := c9) HZ9.out HB9.out HT9.out rfl
 refine bodyPost_ret (ret_node Tryz.results72 rfl hF.1) rfl ?_
 rw [HV.out]
 exact ⟨B9, c9, rfl, hF.2.1, hc9, hF.2.2⟩
theorem of8 {n : Nat} (ih : OfC n) (x : Nd) (P : Nat → Prop) (B : Option Addr) (cap : Nat) (w : World) (hn : x.size ≤ n + 1) (hs : x.size ≤ 40000000) (ho : ∀ y ∈ x.nodes, OkN y) (hc : x.kids.len ≤ cap) (ht : TreesAt w P x.kids B) (hk : x.kind = 8) : Calls Tryz.prog 72 #[ndV x B cap] w (NewT x.sim w) := by
 have HV := Lib.hid (show x.sim = optP (x.kids.sims.headD noneN) by unfold Nd.sim simK; rw [if_neg (by omega)]; rw [if_neg (by omega)]; rw [if_neg (by omega)]; rw [if_neg (by omega)]; rw [if_neg (by omega)]; rw [if_pos (by omega)])
 have HONE := Lib.hid (show x.kids.len = 1 by have := (ho x List.mem_cons_self).2; omega)
 have e3 : (x.kind == 3) = false := kind_no (by omega)
 have e4 : (x.kind == 4) = false := kind_no (by omega)
 have e5 : (x.kind == 5) = false := kind_no (by omega)
 have e6 : (x.kind == 6) = false := kind_no (by omega)
 have e7 : (x.kind == 7) = false := kind_no (by omega)
 have e8 : (x.kind == 8) = true := kind_yes hk
 clear hk
 obtain ⟨HSL, HSG, HF, HSZ, hkz, hkl⟩ := of_start ih x P B cap w hn hs ho ht
 obtain ⟨hb2, HB2, HX2, HZ2, HW2⟩ := two_hid w x B cap
 clear ht hb2 ih hn ho
 generalize x.kids.sims = L at *
 unfold ndV at *
 unfold ndA at *
 obtain ⟨x0, x1, x2, x3, x4, x5, x6, x7, hl2⟩ := (HX2.out).c8n
 go_enter Tryz.func72, Tryz.ntmps72
 go_upto_region 1 with fail
 rw [← W2n_lit w x B cap]
 generalize W2n w x B cap = w2 at *
 go_wp2_with fail
 refine HF.out.mono ?_
 rintro e w3 ⟨A3, c3, rfl, hb3, hc3, ht3⟩
 have HX3 := Lib.hid (HX2.out.below hb3 HX2.out.lt)
 have HZ3 := Lib.hid (HZ2.out.below hb3 HZ2.out.lt)
 have HB3 := Lib.hid (HB2.out.trans (hb3.mono HB2.out.size))
 have HT3 := Lib.hid ht3
 have hw3 : w.heap.size + 2 ≤ w3.heap.size := Nat.le_trans HW2.out hb3.size
 clear hb3 ht3 HF x0 x1 x2 x3 x4 x5 x6 x7 hl2 HX2 HZ2 HB2
 obtain ⟨x0, x1, x2, x3, x4, x5, x6, x7, hl2⟩ := (HX3.out).c8n
 dsimp only
 obtain ⟨z, hz⟩ : ∃ z, L = [z] := List.length_eq_one_iff.1 (by rw [HSL.out]; exact HONE.out)
 have hg : (Trees.of L).list[0]? = some z := by rw [Trees.list_of, hz]; rfl
 obtain ⟨b, o, C, capc, hBe, _, hck, ⟨c0, c1, c2, c3', c4, c5, c6, c7⟩, hkz3⟩ := HT3.out.get hg
 simp only [Nat.zero_mul, Nat.add_zero] at c0 c1 c2 c3' c4 c5 c6 c7
 have hbl := World.block_lt_of_cell? _ _ c0
 have hzs : z.size ≤ 90000000 := by have := mem_size (show z ∈ L by rw [hz]; simp); have := HSZ.out; omega
 have hzo : OkN z := (sg_iff.1 (HSG.out z (by rw [hz]; simp))).1.1
 have hd0 : (0 : Int) < (L.length : Int) := by rw [hz]; simp
 have hdn : 0 < L.length := by rw [hz]; simp
 have hhd : L.headD noneN = z := by rw [hz]; rfl
 rw [hhd] at HV
 subst hBe
 clear hz hg hhd
 have HI := Lib.hid (sopt_go z _ C capc w3 hzs hkz3 hzo)
 unfold ndV at HI
 go_wp2_with fail
 refine HI.out.mono ?_
 rintro e w9 ⟨B9, c9, rfl, hb9, hc9, ht9⟩
 have hZ9 := HZ3.out.below hb9 HZ3.out.lt
 have HB9 := Lib.hid (HB3.out.trans (hb9.mono HB3.out.size))
 have HZ9 := Lib.hid hZ9
 have HT9 := Lib.hid (ht9.weak (Q := fun b => w.heap.size + 2 ≤ b) (fun b hb _ => by omega))
 obtain ⟨y0, y1, y2, y3, y4, y5, y6, y7, g0, g1, g2, g3, g4, g5, g6, g7⟩ := hZ9.z16
 clear hZ9 ht9 hb9 HI HZ3 HB3 HX3 x0 x1 x2 x3 x4 x5 x6 x7 hl2 HT3 HSG HSZ
 generalize hy : optP z = y at *
 have HY := Lib.hid hy
 clear hy
 unfold ndV
 dsimp only
 go_wp2
 go_light
 have hF := put_next (x := y) (B := B9) (cap := c9) HZ9.out HB9.out HT9.out rfl
 refine bodyPost_ret (ret_node Tryz.results72 rfl hF.1) rfl ?_
 rw [HV.out]
 exact ⟨B9, c9, rfl, hF.2.1, hc9, hF.2.2⟩
theorem of9 {n : Nat} (ih : OfC n) (x : Nd) (P : Nat → Prop) (B : Option Addr) (cap : Nat) (w : World) (hn : x.size ≤ n + 1) (hs : x.size ≤ 40000000) (ho : ∀ y ∈ x.nodes, OkN y) (hc : x.kids.len ≤ cap) (ht : TreesAt w P x.kids B) (hk : x.kind = 9) : Calls Tryz.prog 72 #[ndV x B cap] w (NewT x.sim w) := by
 have HV := Lib.hid (show x.sim = repP (x.kids.sims.headD noneN) x.lo x.hi by unfold Nd.sim simK; rw [if_neg (by omega)]; rw [if_neg (by omega)]; rw [if_neg (by omega)]; rw [if_neg (by omega)]; rw [if_neg (by omega)]; rw [if_neg (by omega)]; rw [if_pos (by omega)])
 have HONE := Lib.hid (show x.kids.len = 1 by have := (ho x List.mem_cons_self).2; omega)
 have e3 : (x.kind == 3) = false := kind_no (by omega)
 have e4 : (x.kind == 4) = false := kind_no (by omega)
 have e5 : (x.kind == 5) = false := kind_no (by omega)
 have e6 : (x.kind == 6) = false := kind_no (by omega)
 have e7 : (x.kind == 7) = false := kind_no (by omega)
 have e8 : (x.kind == 8) = false := kind_no (by omega)
 have e9 : (x.kind == 9) = true := kind_yes hk
 clear hk
 obtain ⟨HSL, HSG, HF, HSZ, hkz, hkl⟩ := of_start ih x P B cap w hn hs ho ht
 obtain ⟨hb2, HB2, HX2, HZ2, HW2⟩ := two_hid w x B cap
 clear ht hb2 ih hn ho
 generalize x.kids.sims = L at *
 unfold ndV at *
 unfold ndA at *
 obtain ⟨x0, x1, x2, x3, x4, x5, x6, x7, hl2⟩ := (HX2.out).c8n
 go_enter Tryz.func72, Tryz.ntmps72
 go_upto_region 1 with fail
 rw [← W2n_lit w x B cap]
 generalize W2n w x B cap = w2 at *
 go_wp2_with fail
 refine HF.out.mono ?_
 rintro e w3 ⟨A3, c3, rfl, hb3, hc3, ht3⟩
 have HX3 := Lib.hid (HX2.out.below hb3 HX2.out.lt)
 have HZ3 := Lib.hid (HZ2.out.below hb3 HZ2.out.lt)
 have HB3 := Lib.hid (HB2.out.trans (hb3.mono HB2.out.size))
 have HT3 := Lib.hid ht3
 have hw3 : w.heap.size + 2 ≤ w3.heap.size := Nat.le_trans HW2.out hb3.size
 clear hb3 ht3 HF x0 x1 x2 x3 x4 x5 x6 x7 hl2 HX2 HZ2 HB2
 obtain ⟨x0, x1, x2, x3, x4, x5, x6, x7, hl2⟩ := (HX3.out).c8n
 dsimp only
 obtain ⟨z, hz⟩ : ∃ z, L = [z] := List.length_eq_one_iff.1 (by rw [HSL.out]; exact HONE.out)
 have hg : (Trees.of L).list[0]? = some z := by rw [Trees.list_of, hz]; rfl
 obtain ⟨b, o, C, capc, hBe, _, hck, ⟨c0, c1, c2, c3', c4, c5, c6, c7⟩, hkz3⟩ := HT3.out.get hg
 simp only [Nat.zero_mul, Nat.add_zero] at c0 c1 c2 c3' c4 c5 c6 c7
 have hbl := World.block_lt_of_cell? _ _ c0
 have hzs : z.size ≤ 90000000 := by have := mem_size (show z ∈ L by rw [hz]; simp); have := HSZ.out; omega
 have hzo : OkN z := (sg_iff.1 (HSG.out z (by rw [hz]; simp))).1.1
 have hd0 : (0 : Int) < (L.length : Int) := by rw [hz]; simp
 have hdn : 0 < L.length := by rw [hz]; simp
 have hhd : L.headD noneN = z := by rw [hz]; rfl
 rw [hhd] at HV
 subst hBe
 clear hz hg hhd
 have hbD : Below w3.heap.size w3 w3.drew := (Below.refl _ _).drew
 have HI := Lib.hid (srep_any z x.lo x.hi _ C capc w3.drew hzs hck (hkz3.below hbD) hzo)
 have HZD := Lib.hid (HZ3.out.below hbD HZ3.out.lt)
 have HXD := Lib.hid (HX3.out.below hbD HX3.out.lt)
 have HBD := Lib.hid (HB3.out.trans (hbD.mono HB3.out.size))
 unfold ndV at HI
 clear HZ3 HX3 HB3 hbD HT3 HSG HSZ hkz3
 generalize hrp : repP z x.lo x.hi = y at *
 have HRP := Lib.hid hrp
 clear hrp
 generalize x.lo = lo at *
 generalize x.hi = hi at *
 go_upto_region 17 with fail
 generalize hbx : w.heap.size = bx at *
 have hs : (fun w' => w'.cell? ⟨bx, 6, none⟩ = some (.int .i64 lo) ∧ w'.cell? ⟨bx, 7, none⟩ = some (.int .i64 hi)) w3.drew := ⟨x6, x7⟩
 refine wp_region_noPanic ?_
 refine wp_region_held_drew (S := fun w' => w'.cell? ⟨bx, 6, none⟩ = some (.int .i64 lo) ∧ w'.cell? ⟨bx, 7, none⟩ = some (.int .i64 hi)) (by kernel_rfl) hs (fun hHeld => ?_)
 refine wpAnyH_take (i := 0) (oi := _) (v := ?_) rfl (by kernel_rfl) (by kernel_rfl) (by kernel_rfl) (fun _ _ _ h => h) (Or.inl ⟨by kernel_rfl, ?_⟩) (by assumption) ?_
 rotate_left
 ·intro w hSw
  try dsimp only at hSw
  go_simp
  try (with_reducible rfl)
 try simp only [Act.put, nrmH]
 refine wpAnyH_take (i := 1) (oi := _) (v := ?_) rfl (by kernel_rfl) (by kernel_rfl) (by kernel_rfl) (fun _ _ _ h => h) (Or.inl ⟨by kernel_rfl, ?_⟩) (by assumption) ?_
 rotate_left
 ·intro w hSw
  try dsimp only at hSw
  go_simp
  try (with_reducible rfl)
 try simp only [Act.put, nrmH]
 refine wpAnyH_take (i := 3) (oi := _) (v := ?_) rfl (by kernel_rfl) (by kernel_rfl) (by kernel_rfl) (fun _ _ _ h => h) (Or.inl ⟨by kernel_rfl, ?_⟩) (by assumption) ?_
 rotate_left
 ·intro w hSw
  try dsimp only at hSw
  go_simp
  try (with_reducible rfl)
 try simp only [Act.put, nrmH]
 refine wpAnyH_take (i := 4) (oi := _) (v := ?_) rfl (by kernel_rfl) (by kernel_rfl) (by kernel_rfl) (fun _ _ _ h => h) (Or.inl ⟨by kernel_rfl, ?_⟩) (by assumption) ?_
 rotate_left
 ·intro w hSw
  try dsimp only at hSw
  go_simp
  try (with_reducible rfl)
 try simp only [Act.put, nrmH]
 refine wpAnyH_take (i := 5) (oi := _) (v := ?_) rfl (by kernel_rfl) (by kernel_rfl) (by kernel_rfl) (fun _ _ _ h => h) (Or.inl ⟨by kernel_rfl, ?_⟩) (by assumption) ?_
 rotate_left
 ·intro w hSw
  try dsimp only at hSw
  go_simp
  try (with_reducible rfl)
 try simp only [Act.put, nrmH]
 refine wpAnyH_take (i := 6) (oi := _) (v := ?_) rfl (by kernel_rfl) (by kernel_rfl) (by kernel_rfl) (fun _ _ _ h => h) (Or.inl ⟨by kernel_rfl, ?_⟩) (by assumption) ?_
 rotate_left
 ·intro w hSw
  try dsimp only at hSw
  go_simp
  try (with_reducible rfl)
 try simp only [Act.put, nrmH]
 refine wpAnyH_ready (rs := [2]) (by kernel_rfl) (by simp) ?_
 refine AllReadyH.cons (o := _) rfl (fun K hK => ?_) AllReadyH.nil
 go_simp
 refine hK.out _ _ hs (fun _ => ?_)
 clear hK K
 try simp only [Act.put, nrmH]
 refine wpAnyH_ready (rs := [7]) (by kernel_rfl) (by simp) ?_
 refine AllReadyH.cons (o := _) rfl (fun K hK => ?_) AllReadyH.nil
 go_simp
 go_at_call 39
 refine HI.out.mono ?_
 rintro e w9 ⟨B9, c9, rfl, hb9, hc9, ht9⟩
 have hX9 := HXD.out.below hb9 HXD.out.lt
 have hZ9 := HZD.out.below hb9 HZD.out.lt
 have HB9 := Lib.hid (HBD.out.trans (hb9.mono (show bx ≤ w3.heap.size by omega)))
 have HZ9 := Lib.hid hZ9
 have HT9 := Lib.hid (ht9.weak (Q := fun b => bx + 2 ≤ b) (fun b hb _ => Nat.le_trans hw3 hb))
 have HX9 := Lib.hid hX9
 have hs9 : (fun w' => w'.cell? ⟨bx, 6, none⟩ = some (.int .i64 lo) ∧ w'.cell? ⟨bx, 7, none⟩ = some (.int .i64 hi)) w9 := ⟨hX9.cell 6, hX9.cell 7⟩
 refine hK.out _ _ hs9 (fun _ => ?_)
 clear hK K hb9 ht9 x0 x1 x2 x3 x4 x5 x6 x7 hl2 c0 c1 c2 c3' c4 c5 c6 c7 hs hX9
 try simp only [Act.put, nrmH]
 obtain ⟨y0, y1, y2, y3, y4, y5, y6, y7, g0, g1, g2, g3, g4, g5, g6, g7⟩ := hZ9.z16
 clear hZ9
 unfold ndV
 refine wpAnyH_ready (rs := [8]) (by kernel_rfl) (by simp) ?_
 refine AllReadyH.cons (o := _) rfl (fun K hK => ?_) AllReadyH.nil
 go_simp
 have hXf := far8 HX9.out (show bx ≠ bx + 1 by omega) (.int .i64 y.kind) (.int .u64 (word y.set.testBit 0)) (.int .u64 (word y.set.testBit 1)) (.int .u64 (word y.set.testBit 2)) (.int .u64 (word y.set.testBit 3)) (.slice B9 y.kids.len c9) (.int .i64 y.lo) (.int .i64 y.hi)
 refine hK.out _ _ ⟨hXf.cell 6, hXf.cell 7⟩ (fun _ => ?_)
 clear hK K hXf hs9
 try simp only [Act.put, nrmH]
 refine wpAnyH_done (by kernel_rfl) ?_ _
 refine NoPanic.normal ?_
 go_wp2
 go_light
 subst hbx
 have hF := put_next (x := y) (B := B9) (cap := c9) HZ9.out HB9.out HT9.out rfl
 refine bodyPost_ret (ret_node Tryz.results72 rfl hF.1) rfl ?_
 rw [HV.out]
 exact ⟨B9, c9, rfl, hF.2.1, hc9, hF.2.2⟩
theorem of_step {n : Nat} (ih : OfC n) : OfC (n + 1) := by
 intro x P B cap w hn hs ho hc ht
 by_cases k12 : x.kind = 1 ∨ x.kind = 2
 ·exact of12 ih x P B cap w hn hs ho hc ht k12
 by_cases k3 : x.kind = 3
 ·by_cases hset : isNoSet x.set = true
  ·exact of3n ih x P B cap w hn hs ho hc ht k3 hset
  cases h0 : (((word x.set.testBit 0 : Nat) : Int) == 0) with
  | false => exact of3_0 ih x P B cap w hn hs ho hc ht k3 hset h0
  | true =>
  cases h1 : (((word x.set.testBit 1 : Nat) : Int) == 0) with
  | false => exact of3_1 ih x P B cap w hn hs ho hc ht k3 hset h0 h1
  | true =>
  cases h2 : (((word x.set.testBit 2 : Nat) : Int) == 0) with
  | false => exact of3_2 ih x P B cap w hn hs ho hc ht k3 hset h0 h1 h2
  | true =>
  cases h3 : (((word x.set.testBit 3 : Nat) : Int) == 0) with
  | false => exact of3_3 ih x P B cap w hn hs ho hc ht k3 hset h0 h1 h2 h3
  | true =>
   refine absurd ?_ hset
   rw [beq_iff_eq] at h0 h1 h2 h3
   unfold isNoSet
   rw [show word x.set.testBit 0 = 0 by omega, show word x.set.testBit 1 = 0 by omega, show word x.set.testBit 2 = 0 by omega, show word x.set.testBit 3 = 0 by omega]
   rfl
 by_cases k4 : x.kind = 4
 ·exact of4 ih x P B cap w hn hs ho hc ht k4
 by_cases k5 : x.kind = 5
 ·exact of5 ih x P B cap w hn hs ho hc ht k5
 by_cases k6 : x.kind = 6
 ·exact of6 ih x P B cap w hn hs ho hc ht k6
 by_cases k7 : x.kind = 7
 ·exact of7 ih x P B cap w hn hs ho hc ht k7
 by_cases k8 : x.kind = 8
 ·exact of8 ih x P B cap w hn hs ho hc ht k8
 ·exact of9 ih x P B cap w hn hs ho hc ht (by have := (ho x List.mem_cons_self).2; omega)
theorem sof_go (x : Nd) (P : Nat → Prop) (B : Option Addr) (cap : Nat) (w : World) (hs : x.size ≤ 40000000) (ho : ∀ y ∈ x.nodes, OkN y) (hc : x.kids.len ≤ cap) (ht : TreesAt w P x.kids B) : Calls Tryz.prog 72 #[ndV x B cap] w (NewT x.sim w) := by
 have h : ∀ n, OfC n := by
  intro n
  induction n with
  | zero => exact fun x _ _ _ _ h => by unfold Nd.size at h; omega
  | succ n ih => exact of_step ih
 exact h x.size x P B cap w (Nat.le_refl _) hs ho hc ht
end Go.Proofs.YtofbfafnpdaejaaGreatDoor
