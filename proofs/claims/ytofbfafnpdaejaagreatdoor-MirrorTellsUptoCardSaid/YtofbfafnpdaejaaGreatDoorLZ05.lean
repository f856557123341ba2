/- Texts of the claim. -/
import Derived.Deep.RegionHeldLaw
import Derived.Deep.DeepCutAuto
import Derived.Test.YtofbfafnpdaejaaGreatDoorLZ04
import Derived.Test.YtofbfafnpdaejaaGreatDoorLZ03
import Derived.Test.YtofbfafnpdaejaaGreatDoorLZ01
namespace Go.Proofs.YtofbfafnpdaejaaGreatDoor
open Go.RowKit Go.Maps
set_option linter.unusedSimpArgs false
set_option linter.unusedVariables false
set_option maxRecDepth 100000
set_option maxHeartbeats 8000000
theorem iclone_go (A : Option Addr) (cap : Nat) (L : List Int) (w : World) (hA : IntsAt w A L) (hl : L.length ≤ 100000000) (hcap : L.length ≤ cap) :
  Calls Tryz.prog 68 #[.slice A L.length cap] w (ListV (fun R => R = L) w) := by
 have q26 : ∀ (w : World) (a : Option Addr) (n c n' c' : Nat), (binOp .eql 38 (.slice a n c) (.slice none n' c')).run Tryz.prog w = .ok (.bool a.isNone) w := fun w a n c n' c' => Lib.run_eql_slice_nil w _ _ a n c n' c' Tryz.underlying38
 cases A with
 | none =>
  have hL : L = [] := by
   cases L with
   | nil => rfl
   | cons a l =>
    obtain ⟨b, o, e, _⟩ := hA 0 a rfl
    cases e
  subst hL
  go_enter Tryz.func68, Tryz.ntmps68
  go_wp2
  go_light
  go_ret
  exact ⟨[], none, 0, rfl, rfl, Below.refl _ _, fun i a h => (by simp at h), Nat.le_refl _⟩
 | some a =>
  have hb0 : Below w.heap.size w (w.alloc (.cells #[] 3)) := (Below.refl _ _).alloc (Nat.le_refl _) _
  obtain ⟨v1, w1, hr1, ho1, hg1⟩ := append_own_ints (w.alloc (.cells #[] 3)) w.heap.size _ [] (ints_made w) cap (hA.below hb0) (by simp; omega) (by simp) 38 38 Tryz.underlying38
  have hb1 := below_grown hb0 hg1 (ints_made w) (Nat.le_refl _) (by simp)
  obtain ⟨A2, c2, rfl, hi2, hc2⟩ := own_list ho1
  rw [List.nil_append] at *
  have HR := Lib.hid hr1
  have HZ := Lib.hid (show _ ∧ _ ∧ _ from ⟨hb1, hi2, hc2⟩)
  clear hb0 hr1 ho1 hg1 hb1 hi2 hc2 hA
  go_enter Tryz.func68, Tryz.ntmps68
  go_wp2_with (at_builtin; refine wpList_append_by rfl _ _ 38 38 rfl _ _ _ _ rfl rfl HR.out ?_)
  go_light
  go_ret
  exact ⟨L, A2, c2, rfl, rfl, HZ.out.1, HZ.out.2.1, HZ.out.2.2⟩
theorem ints_stay {w w' : World} {A : Option Addr} {L : List Int} (h : IntsAt w A L) (hk : ∀ (j : Nat) (cs : Array Value) (t : TypeId) (fr : Nat × Nat), w.heap[j]? = some (Obj.cells cs t fr) → w'.heap[j]? = w.heap[j]?) : IntsAt w' A L := fun i a ha => by
 obtain ⟨b, o, e, hc⟩ := h i a ha
 refine ⟨b, o, e, ?_⟩
 cases hb : w.heap[b]? with
 | none => simp [World.cell?, hb] at hc
 | some ob =>
  cases ob with
  | cells cs t fr =>
   have := hk b cs t fr hb
   unfold World.cell? at hc ⊢
   dsimp only at hc ⊢
   rw [this]
   exact hc
  | _ => simp [World.cell?, hb] at hc
theorem since_bel {n : Nat} {w0 w : World} (h : (∀ b o, b < n → w.cell? ⟨b, o, none⟩ = w0.cell? ⟨b, o, none⟩) ∧ Since n w0 w) : Below n w0 w := h.2.1
theorem hs_new {w : World} {o : Obj} {j : Nat} (h : j = w.heap.size) : (w.alloc o).heap[j]? = some o := by rw [h]; exact heap_alloc_new w o
theorem hs_alloc {w : World} {o p : Obj} {j : Nat} (h : w.heap[j]? = some o) : (w.alloc p).heap[j]? = some o := (((Below.refl w.heap.size w).alloc (Nat.le_refl _) p).block j (Array.getElem?_eq_some_iff.1 h).1).trans h
theorem hs_drew {w : World} {o : Obj} {j : Nat} (h : w.heap[j]? = some o) : w.drew.heap[j]? = some o := h
theorem hs_below {w w' : World} {o : Obj} {j : Nat} (hb : Below w.heap.size w w') (h : w.heap[j]? = some o) : w'.heap[j]? = some o := (hb.block j (Array.getElem?_eq_some_iff.1 h).1).trans h
theorem is_alloc {w : World} {A : Option Addr} {L : List Int} (p : Obj) (h : IntsAt w A L) : IntsAt (w.alloc p) A L := h.below ((Below.refl _ _).alloc (Nat.le_refl _) p)
theorem is_drew {w : World} {A : Option Addr} {L : List Int} (h : IntsAt w A L) : IntsAt w.drew A L := h.below (Below.refl _ _).drew
structure NewAt (w0 : World) (N : NfaV) (g lm em : Nat) (A : Option Addr) (k : Nat) (wx : World) : Prop where
 box : Blk wx g 94 #[.int .i64 N.states, .int .i64 N.start, .map (some lm), .map (some em), .slice A N.accept.length k]
 l : wx.heap[lm]? = some (.map #[] 0)
 e : wx.heap[em]? = some (.map #[] 0)
 ne : lm ≠ em
 ll : w0.heap.size ≤ lm
 el : w0.heap.size ≤ em
 gl : w0.heap.size ≤ g
 acc : IntsAt wx A N.accept
 room : N.accept.length ≤ k
 below : Below w0.heap.size w0 wx
def NewC (N : NfaV) (w : World) (e : Ending) (w' : World) : Prop := Below w.heap.size w w' ∧ ((rightN N = false ∧ e = .returned (.tuple #[.pointer none, .int .i64 6])) ∨ (rightN N = true ∧ ∃ g lm em A k, e = .returned (.tuple #[.pointer (some ⟨g, 0, none⟩), .int .i64 0]) ∧ WorkAt w' g lm em N A k))
theorem mnew_go (N : NfaV) (A1 : Option Addr) (k1 : Nat) (A2 : Option Addr) (k2 : Nat) (A3 : Option Addr) (k3 : Nat) (w : World) (hN : NfaAt w N A1 A2 A3) (hk1 : N.links.length ≤ k1) (hk2 : N.edges.length ≤ k2) (hk3 : N.accept.length ≤ k3)
  (hll : N.links.length ≤ 9000000) (hel : N.edges.length ≤ 9000000) (hT : TabAt 0 Lib.deBruijn64tab w) (hw0 : 0 < w.heap.size) :
  Calls Tryz.prog 18 #[.agg (nfA N A1 k1 A2 k2 A3 k3)] w (NewC N w) := by
 have hb1 : Below w.heap.size w (w.alloc (.cells #[.int .i64 N.states, .int .i64 N.start, .slice A1 N.links.length k1, .slice A2 N.edges.length k2, .slice A3 N.accept.length k3] 40)) := (Below.refl _ _).alloc (Nat.le_refl _) _
 have HX := Lib.hid (Blk.new w 40 #[.int .i64 N.states, .int .i64 N.start, .slice A1 N.links.length k1, .slice A2 N.edges.length k2, .slice A3 N.accept.length k3])
 have HB := Lib.hid hb1
 have HN := Lib.hid (hN.below hb1)
 have HRn := Lib.hid (nright_go N A1 k1 A2 k2 A3 k3 _ (hN.below hb1))
 have hx := (Blk.new w 40 #[.int .i64 N.states, .int .i64 N.start, .slice A1 N.links.length k1, .slice A2 N.edges.length k2, .slice A3 N.accept.length k3]).c5
 unfold nfA at *
 go_enter Tryz.func18, Tryz.ntmps18
 go_upto_region 1 with fail
 generalize hg : w.heap.size = gx at *
 generalize w.alloc (.cells #[.int .i64 N.states, .int .i64 N.start, .slice A1 N.links.length k1, .slice A2 N.edges.length k2, .slice A3 N.accept.length k3] 40) = w1 at *
 obtain ⟨x0, x1, x2, x3, x4⟩ := HX.out.c5
 have hlx := HX.out.lt
 cases hR : rightN N with
 | false =>
  rw [hR] at HRn
  have HRf := Lib.hid hR
  clear hR
  go_wp2_with fail
  refine HRn.out.mono ?_
  rintro e w2 ⟨rfl, hb2⟩
  have HB2 := Lib.hid (HB.out.trans (hb2.mono (Nat.le_of_lt hlx)))
  clear hb2 HRn x0 x1 x2 x3 x4
  dsimp only
  go_wp2
  go_light
  go_ret2
  exact ⟨by rw [hg]; exact HB2.out, .inl ⟨HRf.out, rfl⟩⟩
 | true =>
  rw [hR] at HRn
  have hal := rightN_accept hR
  have hst := rightN_states hR
  have hal2 : N.accept.length ≤ 65536 := by omega
  have HRt := Lib.hid hR
  clear hR hal hst
  go_wp2_with fail
  refine HRn.out.mono ?_
  rintro e w2 ⟨rfl, hb2⟩
  dsimp only
  go_upto_region 3 with fail
  have hbw2 := HB.out.trans (hb2.mono (Nat.le_of_lt hlx))
  have HX2 := Lib.hid (HX.out.below hb2 hlx)
  have HN2 := Lib.hid (HN.out.below hb2)
  have HB2 := Lib.hid hbw2
  have hlx2 := HX2.out.lt
  clear x0 x1 x2 x3 x4 HX HRn hlx
  obtain ⟨x0, x1, x2, x3, x4⟩ := HX2.out.c5
  have HCl := Lib.hid (fun (W : World) (hW : Below w2.heap.size w2 W) => iclone_go A3 k3 N.accept W (HN2.out.a.below hW) (by omega) hk3)
  clear hb2 hbw2
  have hgw := HB2.out.size
  go_cut [4] (fun u4 wx => ∃ g lm em A k, u4 = .pointer (some ⟨g, 0, none⟩) ∧ Hid (NewAt w2 N g lm em A k wx))
  case first =>
   have hmm := @run_makeMap Tryz.prog
   go_wp2_with fail
   go_region_held_law (fun w' => (∀ b o, b < w2.heap.size → w'.cell? ⟨b, o, none⟩ = w2.cell? ⟨b, o, none⟩) ∧ Since w2.heap.size w2 w') (repeat (first | (with_reducible assumption) | (with_reducible exact since_start (Nat.le_refl _)) | (with_reducible exact since_refl (Nat.le_refl _)) | (with_reducible refine since_drew ?_) | (with_reducible refine since_step ?_ (by assumption)) | (with_reducible refine since_alloc ?_ _)))
    (first | (go_at_call 68; refine (HCl.out _ (since_bel (by assumption))).mono ?_; rintro e w' ⟨R, A', c', rfl, rfl, hb', hi', hc'⟩))
   all_goals have hsz := hb'.size
   all_goals simp at hsz
   all_goals go_wp2_with fail
   all_goals go_meet
   all_goals refine ⟨_, _, _, _, _, rfl, Lib.hid ⟨(Blk.new_at (by simp)).drew, by repeat (first | (with_reducible refine hs_new ?_; simp; done) | (with_reducible refine hs_drew ?_) | (with_reducible refine hs_below hb' ?_) | (with_reducible refine hs_alloc ?_)), by repeat (first | (with_reducible refine hs_new ?_; simp; done) | (with_reducible refine hs_drew ?_) | (with_reducible refine hs_below hb' ?_) | (with_reducible refine hs_alloc ?_)), by first | omega | (simp; done) | (simp; omega), by first | omega | (simp; done) | (simp; omega), by first | omega | (simp; done) | (simp; omega), by first | omega | (simp; done) | (simp; omega), by repeat (first | (with_reducible exact hi') | (with_reducible refine is_drew ?_) | (with_reducible refine is_alloc _ ?_)), hc', since_bel (by assumption)⟩⟩
  case rest =>
   obtain ⟨g, lm, em, A, k, rfl, HNw⟩ := hcut
   clear HCl
   have hlc := (Array.getElem?_eq_some_iff.1 HNw.out.l).1
   have hec := (Array.getElem?_eq_some_iff.1 HNw.out.e).1
   have hgc := HNw.out.box.lt
   have hgl : g ≠ lm := fun e => by
    have h1 : wc.heap[g]? = _ := HNw.out.box
    rw [e, HNw.out.l] at h1
    cases h1
   have hge : g ≠ em := fun e => by
    have h1 : wc.heap[g]? = _ := HNw.out.box
    rw [e, HNw.out.e] at h1
    cases h1
   have HX3 := Lib.hid (HX2.out.below HNw.out.below hlx2)
   have HB3 := Lib.hid (HB2.out.trans (HNw.out.below.mono (by omega)))
   clear x0 x1 x2 x3 x4
   obtain ⟨x0, x1, x2, x3, x4⟩ := HX3.out.c5
   have hlx3 := HX3.out.lt
   have HL0 := Lib.hid (show Lp1 w2 wc N lm 0 wc from ⟨⟨#[], 0, HNw.out.l, MapKept.stamped_empty 0, hlc, by simp, fun s h => absurd rfl h, by simp⟩, fun _ _ _ => rfl, HNw.out.below, Nat.le_refl _⟩)
   obtain ⟨i0, hi, hz0, hz1, hz2⟩ := info_parts info_intC
   go_wp2
   clear x0 x1 x2 x3 x4
   go_loopw [26] (fun i wr => ∃ n : Nat, i = .int .i64 (n : Int) ∧ n ≤ N.links.length ∧ Hid (Lp1 w2 wc N lm n wr)) (fun i _ => N.links.length - (intOf i).toNat)
   case atStart => exact ⟨0, rfl, Nat.zero_le _, HL0⟩
   case round =>
    clear HL0
    obtain ⟨n, rfl, hn, HL⟩ := hrel
    have hsz := HL.out.sz
    by_cases hlt : n < N.links.length
    ·obtain ⟨⟨a, d⟩, hp⟩ : ∃ p, N.links[n]? = some p := ⟨_, List.getElem?_eq_getElem hlt⟩
     obtain ⟨b, o, rfl, c0, c1⟩ := (HN2.out.l.below HL.out.bel) n (a, d) hp
     have hdl : (n : Int) < (N.links.length : Int) := by omega
     have hdk : (n : Int) < (k1 : Int) := by omega
     have HT := Lib.hid (show N.links.take (n + 1) = N.links.take n ++ [(a, d)] by rw [List.take_add_one, hp]; rfl)
     clear hp
     dsimp only at c0 c1
     have hlen := lkF_len (N.links.take n) a
     rw [List.length_take] at hlen
     have hb0 : Below wr.heap.size wr (wr.alloc (.cells #[.int .i64 a, .int .i64 d] 85)) := (Below.refl _ _).alloc (Nat.le_refl _) _
     have HXb := Lib.hid (Blk.new wr 85 #[.int .i64 a, .int .i64 d])
     have HG0 := Lib.hid (HL.out.grp.below hb0)
     have HK0 := Lib.hid (show ∀ j, j < wc.heap.size → j ≠ lm → (wr.alloc (.cells #[.int .i64 a, .int .i64 d] 85)).heap[j]? = wc.heap[j]? from fun j h1 h2 => (hb0.block j (by omega)).trans (HL.out.kept j h1 h2))
     have HB0 := Lib.hid (HL.out.bel.trans (hb0.mono HL.out.bel.size))
     clear hb0
     go_upto_region 7 with fail
     have hs0 : wc.heap.size ≤ (wr.alloc (.cells #[.int .i64 a, .int .i64 d] 85)).heap.size := by simp; omega
     generalize hbx : wr.heap.size = bx at *
     generalize wr.alloc (.cells #[.int .i64 a, .int .i64 d] 85) = W0 at *
     have hbg : Blk W0 g 94 _ := (HK0.out g hgc hgl).trans HNw.out.box
     obtain ⟨v, v', w5, w6, hlk, hra, hrm, hG, hst, hbl, hs60⟩ := HG0.out.step Tryz.underlying91 Tryz.underlying3 zero_ints Tryz.underlying38 i0 _ 8 hi hz0 hz1 hz2 rfl (by decide) a d #[.int .i64 d] rfl rfl (by intro u hu; simp [inI] at hu; rw [hu]; rfl) (Nat.le_trans (by omega) (show 20000000 ≤ maxLen by decide)) (by omega) hs0
     have hbx0 := HXb.out.lt
     have hnb : ∀ cur, W0.heap[bx]? ≠ some (.cells cur 3 (0, 0)) := fun cur e => by
      have h1 := (show W0.heap[bx]? = _ from HXb.out).symm.trans e
      simp at h1
     have hxl : bx ≠ lm := by omega
     have hg5 := hst g (by omega) hgl (.inl hgc)
     have hx5 := hst bx hbx0 hxl (.inr (.inl hnb))
     have hSs : ∀ w', Blk w' g 94 #[.int .i64 N.states, .int .i64 N.start, .map (some lm), .map (some em), .slice A N.accept.length k] → Blk w' bx 85 #[.int .i64 a, .int .i64 d] → (w'.cell? ⟨g, 2, none⟩ = some (.map (some lm)) ∧ w'.cell? ⟨bx, 0, none⟩ = some (.int .i64 a) ∧ w'.cell? ⟨bx, 1, none⟩ = some (.int .i64 d)) := fun w' h1 h2 => ⟨h1.cell 2, h2.cell 0, h2.cell 1⟩
     have hs := hSs _ hbg.drew HXb.out.drew
     have hs1 := hSs _ (hbg.alloc (.cells #[.int .i64 d] 3)).drew (HXb.out.alloc (.cells #[.int .i64 d] 3)).drew
     have hs5 := hSs w5 (hg5.1.trans hbg) (hx5.1.trans HXb.out)
     have hs6 := hSs w6 (hg5.2.trans hbg) (hx5.2.trans HXb.out)
     have hlk0 := hlk W0.drew rfl
     have hlk1 := hlk (W0.alloc (.cells #[.int .i64 d] 3)).drew (((Below.refl W0.heap.size W0).alloc (Nat.le_refl _) (.cells #[.int .i64 d] 3)).block lm HG0.out.lt)
     have HRa := Lib.hid hra
     have HRm := Lib.hid hrm
     have HL6 := Lib.hid (show Lp1 w2 wc N lm (n + 1) w6 from ⟨by rw [HT.out, ← lkF_snoc]; exact hG, fun j h1 h2 => ((hst j (by omega) h2 (.inl h1)).2).trans (HK0.out j h1 h2), hbl _ _ HB0.out HNw.out.below.size HNw.out.ll, by omega⟩)
     clear hlk hra hrm hG hst hbl hSs hg5 hx5 hnb hbg c0 c1 HG0 HK0 HB0 HXb HL
     refine wp_region_noPanic ?_
     refine wp_region_held_drew (S := fun w' => w'.cell? ⟨g, 2, none⟩ = some (.map (some lm)) ∧ w'.cell? ⟨bx, 0, none⟩ = some (.int .i64 a) ∧ w'.cell? ⟨bx, 1, none⟩ = some (.int .i64 d)) (by kernel_rfl) hs (fun hHeld => ?_)
     refine wpAnyH_take (i := 0) (oi := _) (v := ?_) rfl (by kernel_rfl) (by kernel_rfl) (by kernel_rfl) (fun _ _ _ h => h) (Or.inl ⟨by kernel_rfl, ?_⟩) (by assumption) ?_
     rotate_left
     ·intro w hSw
      try dsimp only at hSw
      go_simp
      try (with_reducible rfl)
     try simp only [Act.put, List.getElem_toArray, List.getElem_cons_zero, List.getElem_cons_succ, List.setIfInBounds_toArray, List.set_cons_zero, List.set_cons_succ]
     refine wpAnyH_take (i := 1) (oi := _) (v := ?_) rfl (by kernel_rfl) (by kernel_rfl) (by kernel_rfl) (fun _ _ _ h => h) (Or.inl ⟨by kernel_rfl, ?_⟩) (by assumption) ?_
     rotate_left
     ·intro w hSw
      try dsimp only at hSw
      go_simp
      try (with_reducible rfl)
     try simp only [Act.put, List.getElem_toArray, List.getElem_cons_zero, List.getElem_cons_succ, List.setIfInBounds_toArray, List.set_cons_zero, List.set_cons_succ]
     refine wpAnyH_take (i := 2) (oi := _) (v := ?_) rfl (by kernel_rfl) (by kernel_rfl) (by kernel_rfl) (fun _ _ _ h => h) (Or.inl ⟨by kernel_rfl, ?_⟩) (by assumption) ?_
     rotate_left
     ·intro w hSw
      try dsimp only at hSw
      go_simp
      try (with_reducible rfl)
     try simp only [Act.put, List.getElem_toArray, List.getElem_cons_zero, List.getElem_cons_succ, List.setIfInBounds_toArray, List.set_cons_zero, List.set_cons_succ]
     refine wpAnyH_take (i := 3) (oi := _) (v := ?_) rfl (by kernel_rfl) (by kernel_rfl) (by kernel_rfl) (fun _ _ _ h => h) (Or.inl ⟨by kernel_rfl, ?_⟩) (by assumption) ?_
     rotate_left
     ·intro w hSw
      try dsimp only at hSw
      go_simp
      try (with_reducible rfl)
     try simp only [Act.put, List.getElem_toArray, List.getElem_cons_zero, List.getElem_cons_succ, List.setIfInBounds_toArray, List.set_cons_zero, List.set_cons_succ]
     refine wpAnyH_take (i := 4) (oi := _) (v := ?_) rfl (by kernel_rfl) (by kernel_rfl) (by kernel_rfl) (fun _ _ _ h => h) (Or.inl ⟨by kernel_rfl, ?_⟩) (by assumption) ?_
     rotate_left
     ·intro w hSw
      try dsimp only at hSw
      go_simp
      try (with_reducible rfl)
     try simp only [Act.put, List.getElem_toArray, List.getElem_cons_zero, List.getElem_cons_succ, List.setIfInBounds_toArray, List.set_cons_zero, List.set_cons_succ]
     refine wpAnyH_take (i := 5) (oi := _) (v := ?_) rfl (by kernel_rfl) (by kernel_rfl) (by kernel_rfl) (fun _ _ _ h => h) (Or.inl ⟨by kernel_rfl, ?_⟩) (by assumption) ?_
     rotate_left
     ·intro w hSw
      try dsimp only at hSw
      go_simp
      try (with_reducible rfl)
     try simp only [Act.put, List.getElem_toArray, List.getElem_cons_zero, List.getElem_cons_succ, List.setIfInBounds_toArray, List.set_cons_zero, List.set_cons_succ]
     refine wpAnyH_take (i := 6) (oi := _) (v := ?_) rfl (by kernel_rfl) (by kernel_rfl) (by kernel_rfl) (fun _ _ _ h => h) (Or.inl ⟨by kernel_rfl, ?_⟩) (by assumption) ?_
     rotate_left
     ·intro w hSw
      try dsimp only at hSw
      go_simp
      try (with_reducible rfl)
     try simp only [Act.put, List.getElem_toArray, List.getElem_cons_zero, List.getElem_cons_succ, List.setIfInBounds_toArray, List.set_cons_zero, List.set_cons_succ]
     refine wpAnyH_take (i := 7) (oi := _) (v := ?_) rfl (by kernel_rfl) (by kernel_rfl) (by kernel_rfl) (fun _ _ _ h => h) (Or.inl ⟨by kernel_rfl, ?_⟩) (by assumption) ?_
     rotate_left
     ·intro w hSw
      try dsimp only at hSw
      go_simp
      try (with_reducible rfl)
     try simp only [Act.put, List.getElem_toArray, List.getElem_cons_zero, List.getElem_cons_succ, List.setIfInBounds_toArray, List.set_cons_zero, List.set_cons_succ]
     refine wpAnyH_take (i := 8) (oi := _) (v := ?_) rfl (by kernel_rfl) (by kernel_rfl) (by kernel_rfl) (fun _ _ _ h => h) (Or.inl ⟨by kernel_rfl, ?_⟩) (by assumption) ?_
     rotate_left
     ·intro w hSw
      try dsimp only at hSw
      go_simp
      try (with_reducible rfl)
     try simp only [Act.put, List.getElem_toArray, List.getElem_cons_zero, List.getElem_cons_succ, List.setIfInBounds_toArray, List.set_cons_zero, List.set_cons_succ]
     refine wpAnyH_take (i := 9) (oi := _) (v := ?_) rfl (by kernel_rfl) (by kernel_rfl) (by kernel_rfl) (fun _ _ _ h => h) (Or.inl ⟨by kernel_rfl, ?_⟩) (by assumption) ?_
     rotate_left
     ·intro w hSw
      try dsimp only at hSw
      go_simp
      try (with_reducible rfl)
     try simp only [Act.put, List.getElem_toArray, List.getElem_cons_zero, List.getElem_cons_succ, List.setIfInBounds_toArray, List.set_cons_zero, List.set_cons_succ]
     refine wpAnyH_take (i := 10) (oi := _) (v := ?_) rfl (by kernel_rfl) (by kernel_rfl) (by kernel_rfl) (fun _ _ _ h => h) (Or.inl ⟨by kernel_rfl, ?_⟩) (by assumption) ?_
     rotate_left
     ·intro w hSw
      try dsimp only at hSw
      go_simp
      try (with_reducible rfl)
     try simp only [Act.put, List.getElem_toArray, List.getElem_cons_zero, List.getElem_cons_succ, List.setIfInBounds_toArray, List.set_cons_zero, List.set_cons_succ]
     refine wpAnyH_take (i := 11) (oi := _) (v := ?_) rfl (by kernel_rfl) (by kernel_rfl) (by kernel_rfl) (fun _ _ _ h => h) (Or.inl ⟨by kernel_rfl, ?_⟩) (by assumption) ?_
     rotate_left
     ·intro w hSw
      try dsimp only at hSw
      go_simp
      try (with_reducible rfl)
     try simp only [Act.put, List.getElem_toArray, List.getElem_cons_zero, List.getElem_cons_succ, List.setIfInBounds_toArray, List.set_cons_zero, List.set_cons_succ]
     refine wpAnyH_take (i := 13) (oi := _) (v := ?_) rfl (by kernel_rfl) (by kernel_rfl) (by kernel_rfl) (fun _ _ _ h => h) (Or.inl ⟨by kernel_rfl, ?_⟩) (by assumption) ?_
     rotate_left
     ·intro w hSw
      try dsimp only at hSw
      go_simp
      try (with_reducible rfl)
     try simp only [Act.put, List.getElem_toArray, List.getElem_cons_zero, List.getElem_cons_succ, List.setIfInBounds_toArray, List.set_cons_zero, List.set_cons_succ]
     refine wpAnyH_take (i := 14) (oi := _) (v := ?_) rfl (by kernel_rfl) (by kernel_rfl) (by kernel_rfl) (fun _ _ _ h => h) (Or.inl ⟨by kernel_rfl, ?_⟩) (by assumption) ?_
     rotate_left
     ·intro w hSw
      try dsimp only at hSw
      go_simp
      try (with_reducible rfl)
     try simp only [Act.put, List.getElem_toArray, List.getElem_cons_zero, List.getElem_cons_succ, List.setIfInBounds_toArray, List.set_cons_zero, List.set_cons_succ]
     refine wpAnyH_ready (rs := [12, 15]) (by kernel_rfl) (by simp) ?_
     refine AllReadyH.cons (o := _) rfl (fun K hK => ?_) (AllReadyH.cons (o := _) rfl (fun K hK => ?_) AllReadyH.nil)
     ·go_simp
      refine hK.out _ _ hs (fun _ => ?_)
      clear hK K
      try simp only [Act.put, List.getElem_toArray, List.getElem_cons_zero, List.getElem_cons_succ, List.setIfInBounds_toArray, List.set_cons_zero, List.set_cons_succ]
      refine wpAnyH_ready (rs := [15]) (by kernel_rfl) (by simp) ?_
      refine AllReadyH.cons (o := _) rfl (fun K hK => ?_) AllReadyH.nil
      go_simp
      refine hK.out _ _ hs1 (fun _ => ?_)
      clear hK K
      try simp only [Act.put, List.getElem_toArray, List.getElem_cons_zero, List.getElem_cons_succ, List.setIfInBounds_toArray, List.set_cons_zero, List.set_cons_succ]
      refine wpAnyH_ready (rs := [16]) (by kernel_rfl) (by simp) ?_
      refine AllReadyH.cons (o := _) rfl (fun K hK => ?_) AllReadyH.nil
      refine step_appendC (by rfl) _ _ _ _ rfl _ _ _ _ rfl rfl HRa.out ?_
      refine hK.out _ _ hs5 (fun _ => ?_)
      clear hK K
      try simp only [Act.put, List.getElem_toArray, List.getElem_cons_zero, List.getElem_cons_succ, List.setIfInBounds_toArray, List.set_cons_zero, List.set_cons_succ]
      refine wpAnyH_ready (rs := [17]) (by kernel_rfl) (by simp) ?_
      refine AllReadyH.cons (o := _) rfl (fun K hK => ?_) AllReadyH.nil
      refine step_mapC (by rfl) _ _ _ _ rfl _ _ _ _ rfl rfl rfl HRm.out ?_
      refine hK.out _ _ hs6 (fun _ => ?_)
      clear hK K
      try simp only [Act.put, List.getElem_toArray, List.getElem_cons_zero, List.getElem_cons_succ, List.setIfInBounds_toArray, List.set_cons_zero, List.set_cons_succ]
      refine wpAnyH_done (by kernel_rfl) ?_ _
      refine NoPanic.normal ?_
      go_wp2_with fail
      go_wp2
      go_roundw
      case rel => exact ⟨n + 1, by go_num, by omega, HL6⟩
      case measure => simp [intOf]; omega
     ·go_simp
      refine hK.out _ _ hs1 (fun _ => ?_)
      clear hK K
      try simp only [Act.put, List.getElem_toArray, List.getElem_cons_zero, List.getElem_cons_succ, List.setIfInBounds_toArray, List.set_cons_zero, List.set_cons_succ]
      refine wpAnyH_ready (rs := [12]) (by kernel_rfl) (by simp) ?_
      refine AllReadyH.cons (o := _) rfl (fun K hK => ?_) AllReadyH.nil
      go_simp
      refine hK.out _ _ hs1 (fun _ => ?_)
      clear hK K
      try simp only [Act.put, List.getElem_toArray, List.getElem_cons_zero, List.getElem_cons_succ, List.setIfInBounds_toArray, List.set_cons_zero, List.set_cons_succ]
      refine wpAnyH_ready (rs := [16]) (by kernel_rfl) (by simp) ?_
      refine AllReadyH.cons (o := _) rfl (fun K hK => ?_) AllReadyH.nil
      refine step_appendC (by rfl) _ _ _ _ rfl _ _ _ _ rfl rfl HRa.out ?_
      refine hK.out _ _ hs5 (fun _ => ?_)
      clear hK K
      try simp only [Act.put, List.getElem_toArray, List.getElem_cons_zero, List.getElem_cons_succ, List.setIfInBounds_toArray, List.set_cons_zero, List.set_cons_succ]
      refine wpAnyH_ready (rs := [17]) (by kernel_rfl) (by simp) ?_
      refine AllReadyH.cons (o := _) rfl (fun K hK => ?_) AllReadyH.nil
      refine step_mapC (by rfl) _ _ _ _ rfl _ _ _ _ rfl rfl rfl HRm.out ?_
      refine hK.out _ _ hs6 (fun _ => ?_)
      clear hK K
      try simp only [Act.put, List.getElem_toArray, List.getElem_cons_zero, List.getElem_cons_succ, List.setIfInBounds_toArray, List.set_cons_zero, List.set_cons_succ]
      refine wpAnyH_done (by kernel_rfl) ?_ _
      refine NoPanic.normal ?_
      go_wp2_with fail
      go_wp2
      go_roundw
      case rel => exact ⟨n + 1, by go_num, by omega, HL6⟩
      case measure => simp [intOf]; omega
    ·have hdl : ¬ (n : Int) < (N.links.length : Int) := by omega
     obtain rfl : n = N.links.length := by omega
     have HL1 := HL
     have hsz1 := hsz
     have HX4 := Lib.hid (HX2.out.below HL.out.bel hlx2)
     obtain ⟨x0, x1, x2, x3, x4⟩ := HX4.out.c5
     have hlx4 := HX4.out.lt
     have HL0 := Lib.hid (show Lp2 w2 wc N lm em 0 wr from ⟨by have h1 := HL.out.grp; rw [List.take_length] at h1; exact h1, ⟨#[], 0, (HL.out.kept em hec (fun e => HNw.out.ne e.symm)).trans HNw.out.e, MapKept.stamped_empty 0, hec, by simp, fun s h => absurd rfl h, by simp⟩, fun j h1 h2 _ => HL.out.kept j h1 h2, HL.out.bel, hsz⟩)
     obtain ⟨j0, hj, hy0, hy1, hy2⟩ := info_parts info_edgeN
     clear HL
     go_wp2
     clear x0 x1 x2 x3 x4 hsz1 hlx4 HX4 HL1
     go_loopw [51] (fun i wr => ∃ n : Nat, i = .int .i64 (n : Int) ∧ n ≤ N.edges.length ∧ Hid (Lp2 w2 wc N lm em n wr)) (fun i _ => N.edges.length - (intOf i).toNat)
     case atStart => exact ⟨0, rfl, Nat.zero_le _, HL0⟩
     case round =>
      clear HL0 hsz
      obtain ⟨n, rfl, hn, HL⟩ := hrel
      have hsz := HL.out.sz
      by_cases hlt : n < N.edges.length
      ·obtain ⟨⟨f, z, t⟩, hp⟩ : ∃ p, N.edges[n]? = some p := ⟨_, List.getElem?_eq_getElem hlt⟩
       obtain ⟨b, o, rfl, c0, c1, c2, c3, c4, c5⟩ := (HN2.out.e.below HL.out.bel) n (f, z, t) hp
       have hdl : (n : Int) < (N.edges.length : Int) := by omega
       have hdk : (n : Int) < (k2 : Int) := by omega
       have HT := Lib.hid (show N.edges.take (n + 1) = N.edges.take n ++ [(f, z, t)] by rw [List.take_add_one, hp]; rfl)
       clear hp
       dsimp only at c0 c1 c2 c3 c4 c5
       have hlen := edF_len (N.edges.take n) f
       rw [List.length_take] at hlen
       have hb0 : Below wr.heap.size wr (wr.alloc (.cells #[.int .i64 f, .int .u64 (word z.testBit 0), .int .u64 (word z.testBit 1), .int .u64 (word z.testBit 2), .int .u64 (word z.testBit 3), .int .i64 t] 89)) := (Below.refl _ _).alloc (Nat.le_refl _) _
       have HXb := Lib.hid (Blk.new wr 89 #[.int .i64 f, .int .u64 (word z.testBit 0), .int .u64 (word z.testBit 1), .int .u64 (word z.testBit 2), .int .u64 (word z.testBit 3), .int .i64 t])
       have HG0 := Lib.hid (HL.out.grp.below hb0)
       have HLg0 := Lib.hid (HL.out.lgrp.below hb0)
       have HK0 := Lib.hid (show ∀ j, j < wc.heap.size → j ≠ lm → j ≠ em → (wr.alloc (.cells #[.int .i64 f, .int .u64 (word z.testBit 0), .int .u64 (word z.testBit 1), .int .u64 (word z.testBit 2), .int .u64 (word z.testBit 3), .int .i64 t] 89)).heap[j]? = wc.heap[j]? from fun j h1 h2 h3 => (hb0.block j (by omega)).trans (HL.out.kept j h1 h2 h3))
       have HB0 := Lib.hid (HL.out.bel.trans (hb0.mono HL.out.bel.size))
       have HV9 := Lib.hid (show ∃ v0, (Instr.lookup 92 (.map (some em)) (.int .i64 f) false).run Tryz.prog wr = .ok v0 wr ∧ ∀ j, v0.ownBlock = some j → j < wr.heap.size from by
        obtain ⟨v0, h1, h2, _⟩ := HL.out.grp.look Tryz.underlying92 Tryz.underlying3 zero_edges f
        exact ⟨v0, h1 wr rfl, fun j hj => (h2.lt j hj).2⟩)
       have HE9 := Lib.hid (show wr.heap[em]? = (wr.alloc (.cells #[.int .i64 f, .int .u64 (word z.testBit 0), .int .u64 (word z.testBit 1), .int .u64 (word z.testBit 2), .int .u64 (word z.testBit 3), .int .i64 t] 89)).heap[em]? from (hb0.block em (by omega)).symm)
       clear hb0
       go_upto_region 12 with fail
       have hs0 : wc.heap.size ≤ (wr.alloc (.cells #[.int .i64 f, .int .u64 (word z.testBit 0), .int .u64 (word z.testBit 1), .int .u64 (word z.testBit 2), .int .u64 (word z.testBit 3), .int .i64 t] 89)).heap.size := by simp; omega
       generalize hbx : wr.heap.size = bx at *
       generalize wr.alloc (.cells #[.int .i64 f, .int .u64 (word z.testBit 0), .int .u64 (word z.testBit 1), .int .u64 (word z.testBit 2), .int .u64 (word z.testBit 3), .int .i64 t] 89) = W0 at *
       have hbg : Blk W0 g 94 _ := (HK0.out g hgc hgl hge).trans HNw.out.box
       obtain ⟨v, v', w5, w6, hlk, hra, hrm, hG, hst, hbl, hs60⟩ := HG0.out.step Tryz.underlying92 Tryz.underlying3 zero_edges Tryz.underlying37 j0 _ 48 hj hy0 hy1 hy2 rfl (by decide) f (f, z, t) #[.int .i64 f, .int .u64 (word z.testBit 0), .int .u64 (word z.testBit 1), .int .u64 (word z.testBit 2), .int .u64 (word z.testBit 3), .int .i64 t] rfl rfl (by intro u hu; simp [edI] at hu; rcases hu with rfl | rfl | rfl | rfl | rfl | rfl <;> rfl) (Nat.le_trans (by omega) (show 20000000 ≤ maxLen by decide)) (by omega) hs0
       have hbx0 := HXb.out.lt
       have hxe : bx ≠ em := by omega
       have hvb : some bx ≠ v.ownBlock := by
        obtain ⟨v0, h1, h2⟩ := HV9.out
        have h3 := hlk wr HE9.out
        rw [h1] at h3
        injection h3 with h4 _
        subst h4
        intro e
        have := h2 bx e.symm
        omega
       have hg5 := hst g (by omega) hge (.inl hgc)
       have hx5 := hst bx hbx0 hxe (.inr (.inr hvb))
       have hSs : ∀ w', Blk w' g 94 #[.int .i64 N.states, .int .i64 N.start, .map (some lm), .map (some em), .slice A N.accept.length k] → Blk w' bx 89 #[.int .i64 f, .int .u64 (word z.testBit 0), .int .u64 (word z.testBit 1), .int .u64 (word z.testBit 2), .int .u64 (word z.testBit 3), .int .i64 t] → (w'.cell? ⟨g, 3, none⟩ = some (.map (some em)) ∧ w'.cell? ⟨bx, 0, none⟩ = some (.int .i64 f) ∧ w'.cell? ⟨bx, 1, none⟩ = some (.int .u64 (word z.testBit 0)) ∧ w'.cell? ⟨bx, 2, none⟩ = some (.int .u64 (word z.testBit 1)) ∧ w'.cell? ⟨bx, 3, none⟩ = some (.int .u64 (word z.testBit 2)) ∧ w'.cell? ⟨bx, 4, none⟩ = some (.int .u64 (word z.testBit 3)) ∧ w'.cell? ⟨bx, 5, none⟩ = some (.int .i64 t)) := fun w' h1 h2 => ⟨h1.cell 3, h2.cell 0, h2.cell 1, h2.cell 2, h2.cell 3, h2.cell 4, h2.cell 5⟩
       have hs := hSs _ hbg.drew HXb.out.drew
       have hs1 := hSs _ (hbg.alloc (.cells #[.int .i64 f, .int .u64 (word z.testBit 0), .int .u64 (word z.testBit 1), .int .u64 (word z.testBit 2), .int .u64 (word z.testBit 3), .int .i64 t] 89)).drew (HXb.out.alloc (.cells #[.int .i64 f, .int .u64 (word z.testBit 0), .int .u64 (word z.testBit 1), .int .u64 (word z.testBit 2), .int .u64 (word z.testBit 3), .int .i64 t] 89)).drew
       have hs5 := hSs w5 (hg5.1.trans hbg) (hx5.1.trans HXb.out)
       have hs6 := hSs w6 (hg5.2.trans hbg) (hx5.2.trans HXb.out)
       have hlk0 := hlk W0.drew rfl
       have hlk1 := hlk (W0.alloc (.cells #[.int .i64 f, .int .u64 (word z.testBit 0), .int .u64 (word z.testBit 1), .int .u64 (word z.testBit 2), .int .u64 (word z.testBit 3), .int .i64 t] 89)).drew (((Below.refl W0.heap.size W0).alloc (Nat.le_refl _) (.cells #[.int .i64 f, .int .u64 (word z.testBit 0), .int .u64 (word z.testBit 1), .int .u64 (word z.testBit 2), .int .u64 (word z.testBit 3), .int .i64 t] 89)).block em HG0.out.lt)
       have HRa := Lib.hid hra
       have HRm := Lib.hid hrm
       have HL6 := Lib.hid (show Lp2 w2 wc N lm em (n + 1) w6 from ⟨HLg0.out.stay fun j o hj ho => by
        have hjl := (Array.getElem?_eq_some_iff.1 hj).1
        refine ((hst j hjl ?_ ?_).2).trans hj
        ·rcases ho with rfl | ⟨cur, rfl⟩
         ·exact HNw.out.ne
         ·intro e
          obtain ⟨es, clock, hm, _⟩ := HG0.out
          rw [e, hm] at hj
          cases hj
        ·rcases ho with rfl | ⟨cur, rfl⟩
         ·exact .inl hlc
         ·refine .inr (.inl fun cur2 e => ?_)
          rw [hj] at e
          simp at e, by rw [HT.out, ← edF_snoc]; exact hG, fun j h1 h2 h3 => ((hst j (by omega) h3 (.inl h1)).2).trans (HK0.out j h1 h2 h3), hbl _ _ HB0.out HNw.out.below.size HNw.out.el, by omega⟩)
       clear hlk hra hrm hG hst hbl hSs hg5 hx5 hvb hbg c0 c1 c2 c3 c4 c5 HG0 HK0 HB0 HXb HL HLg0 HV9 HE9
       refine wp_region_noPanic ?_
       refine wp_region_held_drew (S := fun w' => w'.cell? ⟨g, 3, none⟩ = some (.map (some em)) ∧ w'.cell? ⟨bx, 0, none⟩ = some (.int .i64 f) ∧ w'.cell? ⟨bx, 1, none⟩ = some (.int .u64 (word z.testBit 0)) ∧ w'.cell? ⟨bx, 2, none⟩ = some (.int .u64 (word z.testBit 1)) ∧ w'.cell? ⟨bx, 3, none⟩ = some (.int .u64 (word z.testBit 2)) ∧ w'.cell? ⟨bx, 4, none⟩ = some (.int .u64 (word z.testBit 3)) ∧ w'.cell? ⟨bx, 5, none⟩ = some (.int .i64 t)) (by kernel_rfl) hs (fun hHeld => ?_)
       refine wpAnyH_take (i := 0) (oi := _) (v := ?_) rfl (by kernel_rfl) (by kernel_rfl) (by kernel_rfl) (fun _ _ _ h => h) (Or.inl ⟨by kernel_rfl, ?_⟩) (by assumption) ?_
       rotate_left
       ·intro w hSw
        try dsimp only at hSw
        go_simp
        try (with_reducible rfl)
       try simp only [Act.put, List.getElem_toArray, List.getElem_cons_zero, List.getElem_cons_succ, List.setIfInBounds_toArray, List.set_cons_zero, List.set_cons_succ]
       refine wpAnyH_take (i := 1) (oi := _) (v := ?_) rfl (by kernel_rfl) (by kernel_rfl) (by kernel_rfl) (fun _ _ _ h => h) (Or.inl ⟨by kernel_rfl, ?_⟩) (by assumption) ?_
       rotate_left
       ·intro w hSw
        try dsimp only at hSw
        go_simp
        try (with_reducible rfl)
       try simp only [Act.put, List.getElem_toArray, List.getElem_cons_zero, List.getElem_cons_succ, List.setIfInBounds_toArray, List.set_cons_zero, List.set_cons_succ]
       refine wpAnyH_take (i := 2) (oi := _) (v := ?_) rfl (by kernel_rfl) (by kernel_rfl) (by kernel_rfl) (fun _ _ _ h => h) (Or.inl ⟨by kernel_rfl, ?_⟩) (by assumption) ?_
       rotate_left
       ·intro w hSw
        try dsimp only at hSw
        go_simp
        try (with_reducible rfl)
       try simp only [Act.put, List.getElem_toArray, List.getElem_cons_zero, List.getElem_cons_succ, List.setIfInBounds_toArray, List.set_cons_zero, List.set_cons_succ]
       refine wpAnyH_take (i := 3) (oi := _) (v := ?_) rfl (by kernel_rfl) (by kernel_rfl) (by kernel_rfl) (fun _ _ _ h => h) (Or.inl ⟨by kernel_rfl, ?_⟩) (by assumption) ?_
       rotate_left
       ·intro w hSw
        try dsimp only at hSw
        go_simp
        try (with_reducible rfl)
       try simp only [Act.put, List.getElem_toArray, List.getElem_cons_zero, List.getElem_cons_succ, List.setIfInBounds_toArray, List.set_cons_zero, List.set_cons_succ]
       refine wpAnyH_take (i := 4) (oi := _) (v := ?_) rfl (by kernel_rfl) (by kernel_rfl) (by kernel_rfl) (fun _ _ _ h => h) (Or.inl ⟨by kernel_rfl, ?_⟩) (by assumption) ?_
       rotate_left
       ·intro w hSw
        try dsimp only at hSw
        go_simp
        try (with_reducible rfl)
       try simp only [Act.put, List.getElem_toArray, List.getElem_cons_zero, List.getElem_cons_succ, List.setIfInBounds_toArray, List.set_cons_zero, List.set_cons_succ]
       refine wpAnyH_take (i := 5) (oi := _) (v := ?_) rfl (by kernel_rfl) (by kernel_rfl) (by kernel_rfl) (fun _ _ _ h => h) (Or.inl ⟨by kernel_rfl, ?_⟩) (by assumption) ?_
       rotate_left
       ·intro w hSw
        try dsimp only at hSw
        go_simp
        try (with_reducible rfl)
       try simp only [Act.put, List.getElem_toArray, List.getElem_cons_zero, List.getElem_cons_succ, List.setIfInBounds_toArray, List.set_cons_zero, List.set_cons_succ]
       refine wpAnyH_take (i := 6) (oi := _) (v := ?_) rfl (by kernel_rfl) (by kernel_rfl) (by kernel_rfl) (fun _ _ _ h => h) (Or.inl ⟨by kernel_rfl, ?_⟩) (by assumption) ?_
       rotate_left
       ·intro w hSw
        try dsimp only at hSw
        go_simp
        try (with_reducible rfl)
       try simp only [Act.put, List.getElem_toArray, List.getElem_cons_zero, List.getElem_cons_succ, List.setIfInBounds_toArray, List.set_cons_zero, List.set_cons_succ]
       refine wpAnyH_take (i := 7) (oi := _) (v := ?_) rfl (by kernel_rfl) (by kernel_rfl) (by kernel_rfl) (fun _ _ _ h => h) (Or.inl ⟨by kernel_rfl, ?_⟩) (by assumption) ?_
       rotate_left
       ·intro w hSw
        try dsimp only at hSw
        go_simp
        try (with_reducible rfl)
       try simp only [Act.put, List.getElem_toArray, List.getElem_cons_zero, List.getElem_cons_succ, List.setIfInBounds_toArray, List.set_cons_zero, List.set_cons_succ]
       refine wpAnyH_take (i := 8) (oi := _) (v := ?_) rfl (by kernel_rfl) (by kernel_rfl) (by kernel_rfl) (fun _ _ _ h => h) (Or.inl ⟨by kernel_rfl, ?_⟩) (by assumption) ?_
       rotate_left
       ·intro w hSw
        try dsimp only at hSw
        go_simp
        try (with_reducible rfl)
       try simp only [Act.put, List.getElem_toArray, List.getElem_cons_zero, List.getElem_cons_succ, List.setIfInBounds_toArray, List.set_cons_zero, List.set_cons_succ]
       refine wpAnyH_take (i := 9) (oi := _) (v := ?_) rfl (by kernel_rfl) (by kernel_rfl) (by kernel_rfl) (fun _ _ _ h => h) (Or.inl ⟨by kernel_rfl, ?_⟩) (by assumption) ?_
       rotate_left
       ·intro w hSw
        try dsimp only at hSw
        go_simp
        try (with_reducible rfl)
       try simp only [Act.put, List.getElem_toArray, List.getElem_cons_zero, List.getElem_cons_succ, List.setIfInBounds_toArray, List.set_cons_zero, List.set_cons_succ]
       refine wpAnyH_take (i := 10) (oi := _) (v := ?_) rfl (by kernel_rfl) (by kernel_rfl) (by kernel_rfl) (fun _ _ _ h => h) (Or.inl ⟨by kernel_rfl, ?_⟩) (by assumption) ?_
       rotate_left
       ·intro w hSw
        try dsimp only at hSw
        go_simp
        try (with_reducible rfl)
       try simp only [Act.put, List.getElem_toArray, List.getElem_cons_zero, List.getElem_cons_succ, List.setIfInBounds_toArray, List.set_cons_zero, List.set_cons_succ]
       refine wpAnyH_take (i := 11) (oi := _) (v := ?_) rfl (by kernel_rfl) (by kernel_rfl) (by kernel_rfl) (fun _ _ _ h => h) (Or.inl ⟨by kernel_rfl, ?_⟩) (by assumption) ?_
       rotate_left
       ·intro w hSw
        try dsimp only at hSw
        go_simp
        try (with_reducible rfl)
       try simp only [Act.put, List.getElem_toArray, List.getElem_cons_zero, List.getElem_cons_succ, List.setIfInBounds_toArray, List.set_cons_zero, List.set_cons_succ]
       refine wpAnyH_take (i := 13) (oi := _) (v := ?_) rfl (by kernel_rfl) (by kernel_rfl) (by kernel_rfl) (fun _ _ _ h => h) (Or.inl ⟨by kernel_rfl, ?_⟩) (by assumption) ?_
       rotate_left
       ·intro w hSw
        try dsimp only at hSw
        go_simp
        try (with_reducible rfl)
       try simp only [Act.put, List.getElem_toArray, List.getElem_cons_zero, List.getElem_cons_succ, List.setIfInBounds_toArray, List.set_cons_zero, List.set_cons_succ]
       refine wpAnyH_ready (rs := [12, 14]) (by kernel_rfl) (by simp) ?_
       refine AllReadyH.cons (o := _) rfl (fun K hK => ?_) (AllReadyH.cons (o := _) rfl (fun K hK => ?_) AllReadyH.nil)
       ·go_simp
        refine hK.out _ _ hs (fun _ => ?_)
        clear hK K
        try simp only [Act.put, List.getElem_toArray, List.getElem_cons_zero, List.getElem_cons_succ, List.setIfInBounds_toArray, List.set_cons_zero, List.set_cons_succ]
        refine wpAnyH_ready (rs := [14]) (by kernel_rfl) (by simp) ?_
        refine AllReadyH.cons (o := _) rfl (fun K hK => ?_) AllReadyH.nil
        go_simp
        refine hK.out _ _ hs1 (fun _ => ?_)
        clear hK K
        try simp only [Act.put, List.getElem_toArray, List.getElem_cons_zero, List.getElem_cons_succ, List.setIfInBounds_toArray, List.set_cons_zero, List.set_cons_succ]
        refine wpAnyH_ready (rs := [15]) (by kernel_rfl) (by simp) ?_
        refine AllReadyH.cons (o := _) rfl (fun K hK => ?_) AllReadyH.nil
        refine step_appendC (by rfl) _ _ _ _ rfl _ _ _ _ rfl rfl HRa.out ?_
        refine hK.out _ _ hs5 (fun _ => ?_)
        clear hK K
        try simp only [Act.put, List.getElem_toArray, List.getElem_cons_zero, List.getElem_cons_succ, List.setIfInBounds_toArray, List.set_cons_zero, List.set_cons_succ]
        refine wpAnyH_ready (rs := [16]) (by kernel_rfl) (by simp) ?_
        refine AllReadyH.cons (o := _) rfl (fun K hK => ?_) AllReadyH.nil
        refine step_mapC (by rfl) _ _ _ _ rfl _ _ _ _ rfl rfl rfl HRm.out ?_
        refine hK.out _ _ hs6 (fun _ => ?_)
        clear hK K
        try simp only [Act.put, List.getElem_toArray, List.getElem_cons_zero, List.getElem_cons_succ, List.setIfInBounds_toArray, List.set_cons_zero, List.set_cons_succ]
        refine wpAnyH_done (by kernel_rfl) ?_ _
        refine NoPanic.normal ?_
        go_wp2_with fail
        go_wp2
        go_roundw
        case rel => exact ⟨n + 1, by go_num, by omega, HL6⟩
        case measure => simp [intOf]; omega
       ·go_simp
        refine hK.out _ _ hs1 (fun _ => ?_)
        clear hK K
        try simp only [Act.put, List.getElem_toArray, List.getElem_cons_zero, List.getElem_cons_succ, List.setIfInBounds_toArray, List.set_cons_zero, List.set_cons_succ]
        refine wpAnyH_ready (rs := [12]) (by kernel_rfl) (by simp) ?_
        refine AllReadyH.cons (o := _) rfl (fun K hK => ?_) AllReadyH.nil
        go_simp
        refine hK.out _ _ hs1 (fun _ => ?_)
        clear hK K
        try simp only [Act.put, List.getElem_toArray, List.getElem_cons_zero, List.getElem_cons_succ, List.setIfInBounds_toArray, List.set_cons_zero, List.set_cons_succ]
        refine wpAnyH_ready (rs := [15]) (by kernel_rfl) (by simp) ?_
        refine AllReadyH.cons (o := _) rfl (fun K hK => ?_) AllReadyH.nil
        refine step_appendC (by rfl) _ _ _ _ rfl _ _ _ _ rfl rfl HRa.out ?_
        refine hK.out _ _ hs5 (fun _ => ?_)
        clear hK K
        try simp only [Act.put, List.getElem_toArray, List.getElem_cons_zero, List.getElem_cons_succ, List.setIfInBounds_toArray, List.set_cons_zero, List.set_cons_succ]
        refine wpAnyH_ready (rs := [16]) (by kernel_rfl) (by simp) ?_
        refine AllReadyH.cons (o := _) rfl (fun K hK => ?_) AllReadyH.nil
        refine step_mapC (by rfl) _ _ _ _ rfl _ _ _ _ rfl rfl rfl HRm.out ?_
        refine hK.out _ _ hs6 (fun _ => ?_)
        clear hK K
        try simp only [Act.put, List.getElem_toArray, List.getElem_cons_zero, List.getElem_cons_succ, List.setIfInBounds_toArray, List.set_cons_zero, List.set_cons_succ]
        refine wpAnyH_done (by kernel_rfl) ?_ _
        refine NoPanic.normal ?_
        go_wp2_with fail
        go_wp2
        go_roundw
        case rel => exact ⟨n + 1, by go_num, by omega, HL6⟩
        case measure => simp [intOf]; omega
      ·have hdl : ¬ (n : Int) < (N.edges.length : Int) := by omega
       obtain rfl : n = N.edges.length := by omega
       go_wp2
       go_light
       go_ret2
       have hbw : Below gx w wr := HB2.out.trans (HL.out.bel.mono (by omega))
       refine ⟨by rw [hg]; exact hbw, .inr ⟨HRt.out, g, lm, em, A, k, rfl, ?_⟩⟩
       refine ⟨(HL.out.kept g hgc hgl hge).trans HNw.out.box, ints_stay HNw.out.acc fun j cs t fr hj => HL.out.kept j (Array.getElem?_eq_some_iff.1 hj).1 (fun e => by rw [e, HNw.out.l] at hj; cases hj) (fun e => by rw [e, HNw.out.e] at hj; cases hj), HNw.out.room, hll, hel, TabAt.below hbw hw0 hT, by have := hbw.size; omega, fun s => ?_, fun s => ?_⟩
       ·obtain ⟨v, hrun, hrow, _⟩ := HL.out.lgrp.look Tryz.underlying91 Tryz.underlying3 zero_ints s
        obtain ⟨A', c', rfl, hc'⟩ := own_len_cap hrow
        rw [inI_flat] at hrow
        exact ⟨A', c', fun W hW => hrun W (hW.block lm HL.out.lgrp.lt), own_intsC hrow, hc'⟩
       ·obtain ⟨v, hrun, hrow, _⟩ := HL.out.grp.look Tryz.underlying92 Tryz.underlying3 zero_edges s
        rw [List.take_length] at hrow
        obtain ⟨A', c', rfl, hc'⟩ := own_len_cap hrow
        exact ⟨A', c', fun W hW => hrun W (hW.block em HL.out.grp.lt), own_edI hrow, hc'⟩
end Go.Proofs.YtofbfafnpdaejaaGreatDoor
namespace Go.Proofs.YtofbfafnpdaejaaGreatDoor
open Go.RowKit
set_option linter.unusedSimpArgs false
set_option linter.unusedVariables false
set_option maxRecDepth 100000
set_option maxHeartbeats 8000000
def arr8 (cur : Array Value) (o : Nat) (a0 a1 a2 a3 a4 a5 a6 a7 : Value) : Array Value :=
 (((((((cur.setIfInBounds o a0).setIfInBounds (o + 1) a1).setIfInBounds (o + 2) a2).setIfInBounds (o + 3) a3).setIfInBounds (o + 4) a4).setIfInBounds (o + 5) a5).setIfInBounds (o + 6) a6).setIfInBounds (o + 7) a7
theorem arr8_size (cur : Array Value) (o : Nat) (a0 a1 a2 a3 a4 a5 a6 a7 : Value) : (arr8 cur o a0 a1 a2 a3 a4 a5 a6 a7).size = cur.size := by simp [arr8]
theorem arr8_out (cur : Array Value) (o : Nat) (a0 a1 a2 a3 a4 a5 a6 a7 : Value) {k : Nat} (hk : k < o ∨ o + 8 ≤ k) : (arr8 cur o a0 a1 a2 a3 a4 a5 a6 a7)[k]? = cur[k]? := by
 unfold arr8
 simp only [Array.getElem?_setIfInBounds]
 rw [if_neg (by omega), if_neg (by omega), if_neg (by omega), if_neg (by omega), if_neg (by omega), if_neg (by omega), if_neg (by omega), if_neg (by omega)]
theorem arr8_in (cur : Array Value) (o : Nat) (a0 a1 a2 a3 a4 a5 a6 a7 : Value) (h : o + 8 ≤ cur.size) {j : Nat} (hj : j < 8) : (arr8 cur o a0 a1 a2 a3 a4 a5 a6 a7)[o + j]? = [a0, a1, a2, a3, a4, a5, a6, a7][j]? := by
 unfold arr8
 simp only [Array.getElem?_setIfInBounds, Array.size_setIfInBounds]
 match j, hj with
 | 0, _ => simp; omega
 | 1, _ => simp; omega
 | 2, _ => simp; omega
 | 3, _ => simp; omega
 | 4, _ => simp; omega
 | 5, _ => simp; omega
 | 6, _ => simp; omega
 | 7, _ => simp; omega
def put8W (w : World) (g o : Nat) (a0 a1 a2 a3 a4 a5 a6 a7 : Value) : World :=
 (((((((w.setCell ⟨g, o, none⟩ a0).setCell ⟨g, o + 1, none⟩ a1).setCell ⟨g, o + 2, none⟩ a2).setCell ⟨g, o + 3, none⟩ a3).setCell ⟨g, o + 4, none⟩ a4).setCell ⟨g, o + 5, none⟩ a5).setCell ⟨g, o + 6, none⟩ a6).setCell ⟨g, o + 7, none⟩ a7
theorem Blk.put8W {w : World} {g : Nat} {t : TypeId} {cur : Array Value} (h : Blk w g t cur) (o : Nat) (a0 a1 a2 a3 a4 a5 a6 a7 : Value) : Blk (put8W w g o a0 a1 a2 a3 a4 a5 a6 a7) g t (arr8 cur o a0 a1 a2 a3 a4 a5 a6 a7) :=
 (((((((h.set_ o a0).set_ (o + 1) a1).set_ (o + 2) a2).set_ (o + 3) a3).set_ (o + 4) a4).set_ (o + 5) a5).set_ (o + 6) a6).set_ (o + 7) a7
theorem only_put8W {w0 w : World} {g : Nat} (h : w0.grownBy w (some g)) (o : Nat) (a0 a1 a2 a3 a4 a5 a6 a7 : Value) : w0.grownBy (put8W w g o a0 a1 a2 a3 a4 a5 a6 a7) (some g) :=
 only_set (only_set (only_set (only_set (only_set (only_set (only_set (only_set h o a0) (o + 1) a1) (o + 2) a2) (o + 3) a3) (o + 4) a4) (o + 5) a5) (o + 6) a6) (o + 7) a7
def RevN (w0 : World) (g : Nat) (gs : List (Nd × Option Addr × Nat)) (i : Nat) (w : World) : Prop :=
 ∃ cur : Array Value, Blk w g 28 cur ∧ gs.length * 8 ≤ cur.size ∧ (∀ p a, p < gs.length → revAt gs i p = some a → ∀ j, j < 8 → cur[p * 8 + j]? = (ndCell a.1 a.2.1 a.2.2)[j]?) ∧ w0.grownBy w (some g)
theorem RevN.drew {w0 w : World} {g i : Nat} {gs : List (Nd × Option Addr × Nat)} (h : RevN w0 g gs i w) : RevN w0 g gs i w.drew := by
 obtain ⟨cur, h1, h2, h3, h4⟩ := h
 exact ⟨cur, h1.drew, h2, h3, ⟨h4.os, h4.tape, h4.output, h4.size, h4.block⟩⟩
theorem RevN.swap {w0 w : World} {g i : Nat} {gs : List (Nd × Option Addr × Nat)} {x y : Nd} {A B : Option Addr} {ca cb : Nat} (h : RevN w0 g gs i w) (hi : i < gs.length - 1 - i) (ha : gs[i]? = some (x, A, ca)) (hb : gs[gs.length - 1 - i]? = some (y, B, cb)) :
  RevN w0 g gs (i + 1) (put8W (put8W w g (i * 8) (.int .i64 y.kind) (.int .u64 (word y.set.testBit 0)) (.int .u64 (word y.set.testBit 1)) (.int .u64 (word y.set.testBit 2)) (.int .u64 (word y.set.testBit 3)) (.slice B y.kids.len cb) (.int .i64 y.lo) (.int .i64 y.hi)) g ((gs.length - 1 - i) * 8) (.int .i64 x.kind) (.int .u64 (word x.set.testBit 0)) (.int .u64 (word x.set.testBit 1)) (.int .u64 (word x.set.testBit 2)) (.int .u64 (word x.set.testBit 3)) (.slice A x.kids.len ca) (.int .i64 x.lo) (.int .i64 x.hi)) := by
 obtain ⟨cur, h1, h2, h3, h4⟩ := h
 refine ⟨_, (h1.put8W (i * 8) (.int .i64 y.kind) (.int .u64 (word y.set.testBit 0)) (.int .u64 (word y.set.testBit 1)) (.int .u64 (word y.set.testBit 2)) (.int .u64 (word y.set.testBit 3)) (.slice B y.kids.len cb) (.int .i64 y.lo) (.int .i64 y.hi)).put8W ((gs.length - 1 - i) * 8) (.int .i64 x.kind) (.int .u64 (word x.set.testBit 0)) (.int .u64 (word x.set.testBit 1)) (.int .u64 (word x.set.testBit 2)) (.int .u64 (word x.set.testBit 3)) (.slice A x.kids.len ca) (.int .i64 x.lo) (.int .i64 x.hi), by rw [arr8_size, arr8_size]; exact h2, fun p a hp hr j hj => ?_, only_put8W (only_put8W h4 _ _ _ _ _ _ _ _ _) _ _ _ _ _ _ _ _ _⟩
 rw [revAt_step gs hi hp] at hr
 by_cases hpi : p = i
 ·subst hpi
  rw [if_pos rfl, hb] at hr
  cases hr
  rw [arr8_out _ _ _ _ _ _ _ _ _ _ (by omega), arr8_in _ _ _ _ _ _ _ _ _ _ (by omega) hj]
  rfl
 ·rw [if_neg hpi] at hr
  by_cases hpj : p = gs.length - 1 - i
  ·rw [if_pos hpj, ha] at hr
   cases hr
   rw [hpj, arr8_in _ _ _ _ _ _ _ _ _ _ (by rw [arr8_size]; omega) hj]
   rfl
  ·rw [if_neg hpj] at hr
   rw [arr8_out _ _ _ _ _ _ _ _ _ _ (by omega), arr8_out _ _ _ _ _ _ _ _ _ _ (by omega)]
   exact h3 p a hp hr j hj
theorem revn_go (g cap : Nat) (gs : List (Nd × Option Addr × Nat)) (w : World) (h : RevN w g gs 0 w) (hl : gs.length ≤ 140737488355328) :
  Calls Tryz.prog 110 #[.slice (some ⟨g, 0, none⟩) gs.length cap] w fun e w' => e = .returned (.tuple #[]) ∧ ∃ i, RevN w g gs i w' ∧ ¬ i < gs.length - 1 - i := by
 have H0 := Lib.hid h
 clear h
 go_enter Tryz.func110, Tryz.ntmps110
 go_wp2
 go_loopw [2, 3] (fun a b wr => ∃ i : Nat, a = .int .i64 (i : Int) ∧ b = .int .i64 ((gs.length : Int) - 1 - i) ∧ i ≤ gs.length ∧ Hid (RevN w g gs i wr)) (fun a _ _ => gs.length - (intOf a).toNat)
 case atStart => exact ⟨0, rfl, by simp, by omega, H0⟩
 case round =>
  clear H0
  obtain ⟨i, rfl, rfl, hi, HR⟩ := hrel
  by_cases hlt : i < gs.length - 1 - i
  ·have hdl : (i : Int) < (gs.length : Int) - 1 - i := by omega
   obtain ⟨⟨x, A, ca⟩, ha⟩ : ∃ a, gs[i]? = some a := ⟨_, List.getElem?_eq_getElem (by omega)⟩
   obtain ⟨⟨y, B, cb⟩, hb⟩ : ∃ b, gs[gs.length - 1 - i]? = some b := ⟨_, List.getElem?_eq_getElem (by omega)⟩
   have HSW := Lib.hid (HR.out.swap hlt ha hb).drew
   obtain ⟨cur, h1, h2, h3, h4⟩ := HR.out
   have hA := h3 i _ (by omega) ((revAt_left gs hlt).trans ha)
   have hBb := h3 (gs.length - 1 - i) _ (by omega) ((revAt_right gs hlt).trans hb)
   have HLT := Lib.hid hlt
   obtain ⟨j, hj⟩ : ∃ j, j = gs.length - 1 - i := ⟨_, rfl⟩
   rw [← hj] at hBb HSW
   have pi0 : wr.cell? ⟨g, i * 8, none⟩ = some (.int .i64 x.kind) := (h1.cell (i * 8)).trans (by rw [← Nat.add_zero (i * 8), hA 0 (by decide)]; rfl)
   have pi1 : wr.cell? ⟨g, i * 8 + 1, none⟩ = some (.int .u64 (word x.set.testBit 0)) := (h1.cell (i * 8 + 1)).trans (by rw [hA 1 (by decide)]; rfl)
   have pi2 : wr.cell? ⟨g, i * 8 + 2, none⟩ = some (.int .u64 (word x.set.testBit 1)) := (h1.cell (i * 8 + 2)).trans (by rw [hA 2 (by decide)]; rfl)
   have pi3 : wr.cell? ⟨g, i * 8 + 3, none⟩ = some (.int .u64 (word x.set.testBit 2)) := (h1.cell (i * 8 + 3)).trans (by rw [hA 3 (by decide)]; rfl)
   have pi4 : wr.cell? ⟨g, i * 8 + 4, none⟩ = some (.int .u64 (word x.set.testBit 3)) := (h1.cell (i * 8 + 4)).trans (by rw [hA 4 (by decide)]; rfl)
   have pi5 : wr.cell? ⟨g, i * 8 + 5, none⟩ = some (.slice A x.kids.len ca) := (h1.cell (i * 8 + 5)).trans (by rw [hA 5 (by decide)]; rfl)
   have pi6 : wr.cell? ⟨g, i * 8 + 6, none⟩ = some (.int .i64 x.lo) := (h1.cell (i * 8 + 6)).trans (by rw [hA 6 (by decide)]; rfl)
   have pi7 : wr.cell? ⟨g, i * 8 + 7, none⟩ = some (.int .i64 x.hi) := (h1.cell (i * 8 + 7)).trans (by rw [hA 7 (by decide)]; rfl)
   have pf0 := h1.frozen (i * 8)
   have pf1 := h1.frozen (i * 8 + 1)
   have pf2 := h1.frozen (i * 8 + 2)
   have pf3 := h1.frozen (i * 8 + 3)
   have pf4 := h1.frozen (i * 8 + 4)
   have pf5 := h1.frozen (i * 8 + 5)
   have pf6 := h1.frozen (i * 8 + 6)
   have pf7 := h1.frozen (i * 8 + 7)
   have qi0 : wr.cell? ⟨g, j * 8, none⟩ = some (.int .i64 y.kind) := (h1.cell (j * 8)).trans (by rw [← Nat.add_zero (j * 8), hBb 0 (by decide)]; rfl)
   have qi1 : wr.cell? ⟨g, j * 8 + 1, none⟩ = some (.int .u64 (word y.set.testBit 0)) := (h1.cell (j * 8 + 1)).trans (by rw [hBb 1 (by decide)]; rfl)
   have qi2 : wr.cell? ⟨g, j * 8 + 2, none⟩ = some (.int .u64 (word y.set.testBit 1)) := (h1.cell (j * 8 + 2)).trans (by rw [hBb 2 (by decide)]; rfl)
   have qi3 : wr.cell? ⟨g, j * 8 + 3, none⟩ = some (.int .u64 (word y.set.testBit 2)) := (h1.cell (j * 8 + 3)).trans (by rw [hBb 3 (by decide)]; rfl)
   have qi4 : wr.cell? ⟨g, j * 8 + 4, none⟩ = some (.int .u64 (word y.set.testBit 3)) := (h1.cell (j * 8 + 4)).trans (by rw [hBb 4 (by decide)]; rfl)
   have qi5 : wr.cell? ⟨g, j * 8 + 5, none⟩ = some (.slice B y.kids.len cb) := (h1.cell (j * 8 + 5)).trans (by rw [hBb 5 (by decide)]; rfl)
   have qi6 : wr.cell? ⟨g, j * 8 + 6, none⟩ = some (.int .i64 y.lo) := (h1.cell (j * 8 + 6)).trans (by rw [hBb 6 (by decide)]; rfl)
   have qi7 : wr.cell? ⟨g, j * 8 + 7, none⟩ = some (.int .i64 y.hi) := (h1.cell (j * 8 + 7)).trans (by rw [hBb 7 (by decide)]; rfl)
   have qf0 := h1.frozen (j * 8)
   have qf1 := h1.frozen (j * 8 + 1)
   have qf2 := h1.frozen (j * 8 + 2)
   have qf3 := h1.frozen (j * 8 + 3)
   have qf4 := h1.frozen (j * 8 + 4)
   have qf5 := h1.frozen (j * 8 + 5)
   have qf6 := h1.frozen (j * 8 + 6)
   have qf7 := h1.frozen (j * 8 + 7)
   have hlg := h1.lt
   have hjn : (gs.length : Int) - 1 - i = (j : Int) := by omega
   have hij : i < j := by omega
   have hil : i < gs.length := by omega
   have mixed : Tryz.prog.follows .mixedOrders = true := by kernel_rfl
   have hjl : j < gs.length := by omega
   rw [hjn] at *
   have HJ := Lib.hid hj
   unfold put8W at HSW
   clear h1 h2 h3 h4 ha hb hj hjn hA hBb HR
   go_wp2_with fail
   go_region_o
   go_wp2
   go_roundw
   case rel => exact ⟨i + 1, by go_num, by congr 1; have := HJ.out; omega, by omega, HSW⟩
   case measure => simp [intOf]; omega
  ·have hdl : ¬ (i : Int) < (gs.length : Int) - 1 - i := by omega
   have HLT := Lib.hid hlt
   go_wp2
   go_light
   go_end0
   exact ⟨rfl, i, HR.out, by have := HLT.out; omega⟩
end Go.Proofs.YtofbfafnpdaejaaGreatDoor
