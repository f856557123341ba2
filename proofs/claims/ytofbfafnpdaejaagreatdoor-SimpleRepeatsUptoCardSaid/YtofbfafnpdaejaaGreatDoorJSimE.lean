/- Texts of the claim. -/
import Derived.Test.YtofbfafnpdaejaaGreatDoorJZ05
import Derived.Test.YtofbfafnpdaejaaGreatDoorJZ01
set_option linter.all false
set_option maxRecDepth 100000
set_option maxHeartbeats 8000000
namespace Go.Proofs.YtofbfafnpdaejaaGreatDoor
open Go.RowKit
def FitT (x : Nd) : Prop := ∀ y ∈ x.nodes, y.set < 2 ^ 256
def FitF (F : Trees) : Prop := ∀ y ∈ F.nodes, y.set < 2 ^ 256
theorem FitT.kids {x : Nd} (h : FitT x) : FitF x.kids := fun y hy => h y (List.mem_cons_of_mem _ hy)
theorem FitF.get {F : Trees} (h : FitF F) {z : Nd} (hz : z ∈ F.list) : FitT z := fun y hy => h y ((nodes_list _ _).2 ⟨z, hz, hy⟩)
noncomputable def sameF (F G : Trees) : Bool := @decide (F = G) (Classical.propDecidable _)
theorem sameF_iff {F G : Trees} : sameF F G = true ↔ F = G := by unfold sameF; exact @decide_eq_true_iff _ (Classical.propDecidable _)
theorem sameF_no {F G : Trees} (h : F ≠ G) : sameF F G = false := by
 cases hb : sameF F G with
 | false => rfl
 | true => exact absurd (sameF_iff.1 hb) h
theorem words_same {s t : Nat} (hs : s < 2 ^ 256) (ht : t < 2 ^ 256) (h : ∀ i, i < 4 → word s.testBit i = word t.testBit i) : s = t := by
 refine Nat.eq_of_testBit_eq fun c => ?_
 rcases Nat.lt_or_ge c 256 with hc | hc
 ·have e := congrArg (fun n => n.testBit (c % 64)) (h (c / 64) (by omega))
  simp only [testBit_word] at e
  rw [decide_eq_true (Nat.mod_lt c (by decide)), Bool.true_and, Bool.true_and, show 64 * (c / 64) + c % 64 = c by omega] at e
  exact e
 ·have hp : 2 ^ 256 ≤ 2 ^ c := Nat.pow_le_pow_right (by decide) hc
  rw [Nat.testBit_lt_two_pow (Nat.lt_of_lt_of_le hs hp), Nat.testBit_lt_two_pow (Nat.lt_of_lt_of_le ht hp)]
theorem lists_same {F G : Trees} (h1 : F.len = G.len) (h2 : ∀ (i : Nat) (a b : Nd), F.list[i]? = some a → G.list[i]? = some b → a = b) : F = G := by
 have : F.list = G.list := by
  refine List.ext_getElem? fun i => ?_
  rcases Nat.lt_or_ge i F.len with hi | hi
  ·obtain ⟨a, ha⟩ : ∃ a, F.list[i]? = some a := ⟨_, List.getElem?_eq_getElem (by rw [Trees.len_list]; exact hi)⟩
   obtain ⟨b, hb⟩ : ∃ b, G.list[i]? = some b := ⟨_, List.getElem?_eq_getElem (by rw [Trees.len_list, ← h1]; exact hi)⟩
   rw [ha, hb, h2 i a b ha hb]
  ·rw [List.getElem?_eq_none (by rw [Trees.len_list]; exact hi), List.getElem?_eq_none (by rw [Trees.len_list, ← h1]; exact hi)]
 rw [← Trees.of_list F, ← Trees.of_list G, this]
theorem nd_same {x y : Nd} (h1 : x.kind = y.kind) (h2 : x.set = y.set) (h3 : x.lo = y.lo) (h4 : x.hi = y.hi) (h5 : x.kids = y.kids) : x = y := by
 obtain ⟨a, b, c, d, e⟩ := x
 obtain ⟨a', b', c', d', e'⟩ := y
 simp only at h1 h2 h3 h4 h5
 subst h1 h2 h3 h4 h5
 rfl
def TSameD (n : Nat) : Prop := ∀ (x y : Nd) (P P' : Nat → Prop) (B B' : Option Addr) (cap cap' : Nat) (w : World), x.size ≤ n → x.size ≤ 100000000 → y.size ≤ 100000000 → FitT x → FitT y → TreesAt w P x.kids B → TreesAt w P' y.kids B' →
 Calls Tryz.prog 53 #[ndV x B cap, ndV y B' cap'] w fun e w' => e = .returned (.bool (sameN x y)) ∧ Below w.heap.size w w'
def TEqualD (n : Nat) : Prop := ∀ (F G : Trees) (P P' : Nat → Prop) (B B' : Option Addr) (cap cap' : Nat) (w : World), F.size ≤ n → F.size ≤ 100000000 → G.size ≤ 100000000 → FitF F → FitF G → TreesAt w P F B → TreesAt w P' G B' →
 Calls Tryz.prog 108 #[.slice B F.len cap, .slice B' G.len cap', .func (.func 53) #[] #[]] w fun e w' => e = .returned (.bool (sameF F G)) ∧ Below w.heap.size w w'
theorem tequald_step {n : Nat} (ih : TSameD n) : TEqualD n := by
 intro F G P P' B B' cap cap' w hsz hlen hlen' hf hg ht ht'
 have HT := Lib.hid ht
 have HT' := Lib.hid ht'
 have HF := Lib.hid hf
 have HG := Lib.hid hg
 have hlk : F.len ≤ 100000000 := by have := Trees.len_size F; omega
 clear ht ht' hf hg
 by_cases hn : F.len = G.len
 ·have hnn : ((F.len : Int) != (G.len : Int)) = false := by rw [bne_eq_false_iff_eq]; omega
  have HN := Lib.hid hn
  clear hn
  go_enter Tryz.func108, Tryz.ntmps108
  go_wp2
  go_loopw [17] (fun i wr => ∃ k : Nat, i = .int .i64 (k : Int) ∧ k ≤ F.len ∧ Hid (∀ (j : Nat) (a b : Nd), j < k → F.list[j]? = some a → G.list[j]? = some b → a = b) ∧ Hid (Below w.heap.size w wr)) (fun i _ => F.len - (intOf i).toNat)
  case atStart => exact ⟨0, rfl, Nat.zero_le _, Lib.hid (fun j a b hj => by omega), Lib.hid (Below.refl _ _)⟩
  case round =>
   clear hnn
   obtain ⟨k, rfl, hk, HE, HB⟩ := hrel
   by_cases hlt : k < F.len
   ·obtain ⟨z, hz⟩ : ∃ z, F.list[k]? = some z := ⟨_, List.getElem?_eq_getElem (by rw [Trees.len_list]; exact hlt)⟩
    obtain ⟨y, hy⟩ : ∃ y, G.list[k]? = some y := ⟨_, List.getElem?_eq_getElem (by rw [Trees.len_list, ← HN.out]; exact hlt)⟩
    have hzs := Trees.size_get F k z hz
    have hys := Trees.size_get G k y hy
    obtain ⟨b, o, C, capc, rfl, _, _, ⟨c0, c1, c2, c3, c4, c5, c6, c7⟩, hkz⟩ := (HT.out.below HB.out).get hz
    obtain ⟨b', o', C', capc', rfl, _, _, ⟨d0, d1, d2, d3, d4, d5, d6, d7⟩, hkz'⟩ := (HT'.out.below HB.out).get hy
    have hdl : (k : Int) < (F.len : Int) := by omega
    have hdg : (k : Int) < (G.len : Int) := by have := HN.out; omega
    have hbl := World.block_lt_of_cell? wr _ c0
    have hbl' := World.block_lt_of_cell? wr _ d0
    have hb2 : Below wr.heap.size wr ((wr.alloc (.cells (ndA z C capc) 28)).alloc (.cells (ndA y C' capc') 28)) := ((Below.refl _ _).alloc (Nat.le_refl _) _).alloc (by simp) _
    have HI := Lib.hid (ih z y P P' C C' capc capc' _ (by omega) (by omega) (by omega) (HF.out.get (List.mem_of_getElem? hz)) (HG.out.get (List.mem_of_getElem? hy)) (hkz.below hb2) (hkz'.below hb2))
    have HB2 := Lib.hid (HB.out.trans (hb2.mono HB.out.size))
    have HZY := Lib.hid (show _ ∧ _ from ⟨hz, hy⟩)
    clear hz hy hzs hys hkz hkz' hsz hlen hlen' hb2
    unfold ndV at HI
    cases hv : sameN z y with
    | true =>
     rw [hv] at HI
     have HV := Lib.hid (sameN_iff.1 hv)
     clear hv
     go_wp2_with fail
     refine HI.out.mono ?_
     rintro e w3 ⟨rfl, hb3⟩
     have HB3 := Lib.hid (HB2.out.trans (hb3.mono HB2.out.size))
     clear hb3 HI c0 c1 c2 c3 c4 c5 c6 c7 d0 d1 d2 d3 d4 d5 d6 d7
     dsimp only
     go_wp2
     go_roundw
     case rel => exact ⟨k + 1, by go_num, by omega, Lib.hid (fun j a b hj ha hb => by
      rcases Nat.lt_or_ge j k with h | h
      ·exact HE.out j a b h ha hb
      ·obtain rfl : j = k := by omega
       rw [HZY.out.1] at ha
       rw [HZY.out.2] at hb
       cases ha
       cases hb
       exact HV.out), HB3⟩
     case measure => simp [intOf]; omega
    | false =>
     rw [hv] at HI
     have HV := Lib.hid (show sameF F G = false from sameF_no (fun e => by
      have h2 := HZY.out.2
      rw [← e, HZY.out.1] at h2
      cases h2
      rw [sameN_self] at hv
      cases hv))
     clear hv
     go_wp2_with fail
     refine HI.out.mono ?_
     rintro e w3 ⟨rfl, hb3⟩
     have HB3 := Lib.hid (HB2.out.trans (hb3.mono HB2.out.size))
     clear hb3 HI c0 c1 c2 c3 c4 c5 c6 c7 d0 d1 d2 d3 d4 d5 d6 d7
     dsimp only
     go_wp2
     go_light
     go_ret
     exact ⟨by rw [HV.out]; rfl, HB3.out⟩
   ·have hdl : ¬ (k : Int) < (F.len : Int) := by omega
    have HV := Lib.hid (show sameF F G = true from sameF_iff.2 (lists_same HN.out (fun i a b ha hb => HE.out i a b (by
     have := (List.getElem?_eq_some_iff.1 ha).1
     rw [Trees.len_list] at this
     omega) ha hb)))
    go_wp2
    go_light
    go_ret
    exact ⟨by rw [HV.out]; rfl, HB.out⟩
 ·have hnn : ((F.len : Int) != (G.len : Int)) = true := by rw [bne_iff_ne]; omega
  have HV := Lib.hid (show sameF F G = false from sameF_no (fun e => hn (by rw [e])))
  go_enter Tryz.func108, Tryz.ntmps108
  go_wp2
  go_light
  go_ret
  exact ⟨by rw [HV.out]; rfl, Below.refl _ _⟩
theorem ts_kind (x y : Nd) (B B' : Option Addr) (cap cap' : Nat) (w : World) (hk : (x.kind != y.kind) = true) : Calls Tryz.prog 53 #[ndV x B cap, ndV y B' cap'] w fun e w' => e = .returned (.bool false) ∧ Below w.heap.size w w' := by
 have HB := Lib.hid (show Below w.heap.size w ((w.alloc (.cells (ndA x B cap) 28)).alloc (.cells (ndA y B' cap') 28)) from ((Below.refl _ _).alloc (Nat.le_refl _) _).alloc (by simp) _)
 unfold ndV
 go_enter Tryz.func53, Tryz.ntmps53
 go_wp2
 go_light
 go_ret
 exact ⟨rfl, HB.out⟩
theorem ts_set0 (x y : Nd) (B B' : Option Addr) (cap cap' : Nat) (w : World) (hk : (x.kind != y.kind) = false) (h0 : (((word x.set.testBit 0 : Nat) : Int) == ((word y.set.testBit 0 : Nat) : Int)) = false) : Calls Tryz.prog 53 #[ndV x B cap, ndV y B' cap'] w fun e w' => e = .returned (.bool false) ∧ Below w.heap.size w w' := by
 have HB := Lib.hid (show Below w.heap.size w ((w.alloc (.cells (ndA x B cap) 28)).alloc (.cells (ndA y B' cap') 28)) from ((Below.refl _ _).alloc (Nat.le_refl _) _).alloc (by simp) _)
 unfold ndV
 go_enter Tryz.func53, Tryz.ntmps53
 go_wp2
 go_light
 go_ret
 exact ⟨rfl, HB.out⟩
theorem ts_set1 (x y : Nd) (B B' : Option Addr) (cap cap' : Nat) (w : World) (hk : (x.kind != y.kind) = false) (h0 : (((word x.set.testBit 0 : Nat) : Int) == ((word y.set.testBit 0 : Nat) : Int)) = true) (h1 : (((word x.set.testBit 1 : Nat) : Int) == ((word y.set.testBit 1 : Nat) : Int)) = false) : Calls Tryz.prog 53 #[ndV x B cap, ndV y B' cap'] w fun e w' => e = .returned (.bool false) ∧ Below w.heap.size w w' := by
 have HB := Lib.hid (show Below w.heap.size w ((w.alloc (.cells (ndA x B cap) 28)).alloc (.cells (ndA y B' cap') 28)) from ((Below.refl _ _).alloc (Nat.le_refl _) _).alloc (by simp) _)
 unfold ndV
 go_enter Tryz.func53, Tryz.ntmps53
 go_wp2
 go_light
 go_ret
 exact ⟨rfl, HB.out⟩
theorem ts_set2 (x y : Nd) (B B' : Option Addr) (cap cap' : Nat) (w : World) (hk : (x.kind != y.kind) = false) (h0 : (((word x.set.testBit 0 : Nat) : Int) == ((word y.set.testBit 0 : Nat) : Int)) = true) (h1 : (((word x.set.testBit 1 : Nat) : Int) == ((word y.set.testBit 1 : Nat) : Int)) = true) (h2 : (((word x.set.testBit 2 : Nat) : Int) == ((word y.set.testBit 2 : Nat) : Int)) = false) : Calls Tryz.prog 53 #[ndV x B cap, ndV y B' cap'] w fun e w' => e = .returned (.bool false) ∧ Below w.heap.size w w' := by
 have HB := Lib.hid (show Below w.heap.size w ((w.alloc (.cells (ndA x B cap) 28)).alloc (.cells (ndA y B' cap') 28)) from ((Below.refl _ _).alloc (Nat.le_refl _) _).alloc (by simp) _)
 unfold ndV
 go_enter Tryz.func53, Tryz.ntmps53
 go_wp2
 go_light
 go_ret
 exact ⟨rfl, HB.out⟩
theorem ts_set3 (x y : Nd) (B B' : Option Addr) (cap cap' : Nat) (w : World) (hk : (x.kind != y.kind) = false) (h0 : (((word x.set.testBit 0 : Nat) : Int) == ((word y.set.testBit 0 : Nat) : Int)) = true) (h1 : (((word x.set.testBit 1 : Nat) : Int) == ((word y.set.testBit 1 : Nat) : Int)) = true) (h2 : (((word x.set.testBit 2 : Nat) : Int) == ((word y.set.testBit 2 : Nat) : Int)) = true) (h3 : (((word x.set.testBit 3 : Nat) : Int) == ((word y.set.testBit 3 : Nat) : Int)) = false) : Calls Tryz.prog 53 #[ndV x B cap, ndV y B' cap'] w fun e w' => e = .returned (.bool false) ∧ Below w.heap.size w w' := by
 have HB := Lib.hid (show Below w.heap.size w ((w.alloc (.cells (ndA x B cap) 28)).alloc (.cells (ndA y B' cap') 28)) from ((Below.refl _ _).alloc (Nat.le_refl _) _).alloc (by simp) _)
 unfold ndV
 go_enter Tryz.func53, Tryz.ntmps53
 go_wp2
 go_light
 go_ret
 exact ⟨rfl, HB.out⟩
theorem ts_lo (x y : Nd) (B B' : Option Addr) (cap cap' : Nat) (w : World) (hk : (x.kind != y.kind) = false) (h0 : (((word x.set.testBit 0 : Nat) : Int) == ((word y.set.testBit 0 : Nat) : Int)) = true) (h1 : (((word x.set.testBit 1 : Nat) : Int) == ((word y.set.testBit 1 : Nat) : Int)) = true) (h2 : (((word x.set.testBit 2 : Nat) : Int) == ((word y.set.testBit 2 : Nat) : Int)) = true) (h3 : (((word x.set.testBit 3 : Nat) : Int) == ((word y.set.testBit 3 : Nat) : Int)) = true) (hl : (x.lo != y.lo) = true) : Calls Tryz.prog 53 #[ndV x B cap, ndV y B' cap'] w fun e w' => e = .returned (.bool false) ∧ Below w.heap.size w w' := by
 have HB := Lib.hid (show Below w.heap.size w ((w.alloc (.cells (ndA x B cap) 28)).alloc (.cells (ndA y B' cap') 28)) from ((Below.refl _ _).alloc (Nat.le_refl _) _).alloc (by simp) _)
 unfold ndV
 go_enter Tryz.func53, Tryz.ntmps53
 go_wp2
 go_light
 go_ret
 exact ⟨rfl, HB.out⟩
theorem ts_hi (x y : Nd) (B B' : Option Addr) (cap cap' : Nat) (w : World) (hk : (x.kind != y.kind) = false) (h0 : (((word x.set.testBit 0 : Nat) : Int) == ((word y.set.testBit 0 : Nat) : Int)) = true) (h1 : (((word x.set.testBit 1 : Nat) : Int) == ((word y.set.testBit 1 : Nat) : Int)) = true) (h2 : (((word x.set.testBit 2 : Nat) : Int) == ((word y.set.testBit 2 : Nat) : Int)) = true) (h3 : (((word x.set.testBit 3 : Nat) : Int) == ((word y.set.testBit 3 : Nat) : Int)) = true) (hl : (x.lo != y.lo) = false) (hh : (x.hi != y.hi) = true) : Calls Tryz.prog 53 #[ndV x B cap, ndV y B' cap'] w fun e w' => e = .returned (.bool false) ∧ Below w.heap.size w w' := by
 have HB := Lib.hid (show Below w.heap.size w ((w.alloc (.cells (ndA x B cap) 28)).alloc (.cells (ndA y B' cap') 28)) from ((Below.refl _ _).alloc (Nat.le_refl _) _).alloc (by simp) _)
 unfold ndV
 go_enter Tryz.func53, Tryz.ntmps53
 go_wp2
 go_light
 go_ret
 exact ⟨rfl, HB.out⟩
theorem word_eq_of_b {a b : Nat} (h : ((a : Int) == (b : Int)) = true) : a = b := by rw [beq_iff_eq] at h; omega
theorem word_ne_of_b {s t : Nat} {i : Nat} (h : (((word s.testBit i : Nat) : Int) == ((word t.testBit i : Nat) : Int)) = false) : s ≠ t := fun e => by
 rw [e] at h
 simp at h
theorem tsamed_step {n : Nat} (ih : TEqualD n) : TSameD (n + 1) := by
 intro x y P P' B B' cap cap' w hsz hlen hlen' hf hg ht ht'
 cases hk : (x.kind != y.kind) with
 | true =>
  rw [sameN_no (fun e => by rw [e] at hk; simp at hk)]
  exact ts_kind x y B B' cap cap' w hk
 | false =>
 cases h0 : (((word x.set.testBit 0 : Nat) : Int) == ((word y.set.testBit 0 : Nat) : Int)) with
 | false =>
  rw [sameN_no (fun e => word_ne_of_b h0 (by rw [e]))]
  exact ts_set0 x y B B' cap cap' w hk h0
 | true =>
 cases h1 : (((word x.set.testBit 1 : Nat) : Int) == ((word y.set.testBit 1 : Nat) : Int)) with
 | false =>
  rw [sameN_no (fun e => word_ne_of_b h1 (by rw [e]))]
  exact ts_set1 x y B B' cap cap' w hk h0 h1
 | true =>
 cases h2 : (((word x.set.testBit 2 : Nat) : Int) == ((word y.set.testBit 2 : Nat) : Int)) with
 | false =>
  rw [sameN_no (fun e => word_ne_of_b h2 (by rw [e]))]
  exact ts_set2 x y B B' cap cap' w hk h0 h1 h2
 | true =>
 cases h3 : (((word x.set.testBit 3 : Nat) : Int) == ((word y.set.testBit 3 : Nat) : Int)) with
 | false =>
  rw [sameN_no (fun e => word_ne_of_b h3 (by rw [e]))]
  exact ts_set3 x y B B' cap cap' w hk h0 h1 h2 h3
 | true =>
 cases hl : (x.lo != y.lo) with
 | true =>
  rw [sameN_no (fun e => by rw [e] at hl; simp at hl)]
  exact ts_lo x y B B' cap cap' w hk h0 h1 h2 h3 hl
 | false =>
 cases hh : (x.hi != y.hi) with
 | true =>
  rw [sameN_no (fun e => by rw [e] at hh; simp at hh)]
  exact ts_hi x y B B' cap cap' w hk h0 h1 h2 h3 hl hh
 | false =>
  have hset : x.set = y.set := words_same (hf x List.mem_cons_self) (hg y List.mem_cons_self) (fun i hi => by
   rcases (by omega : i = 0 ∨ i = 1 ∨ i = 2 ∨ i = 3) with rfl | rfl | rfl | rfl
   ·exact word_eq_of_b h0
   ·exact word_eq_of_b h1
   ·exact word_eq_of_b h2
   ·exact word_eq_of_b h3)
  have hv : sameN x y = sameF x.kids y.kids := by
   cases hs : sameF x.kids y.kids with
   | true => exact sameN_iff.2 (nd_same (by rw [bne_eq_false_iff_eq] at hk; exact hk) hset (by rw [bne_eq_false_iff_eq] at hl; exact hl) (by rw [bne_eq_false_iff_eq] at hh; exact hh) (sameF_iff.1 hs))
   | false => exact sameN_no (fun e => by
     rw [sameF_iff.2 (by rw [e])] at hs
     cases hs)
  rw [hv]
  have hb2 : Below w.heap.size w ((w.alloc (.cells (ndA x B cap) 28)).alloc (.cells (ndA y B' cap') 28)) := ((Below.refl _ _).alloc (Nat.le_refl _) _).alloc (by simp) _
  have HI := Lib.hid (ih x.kids y.kids P P' B B' cap cap' _ (by unfold Nd.size at hsz; omega) (by unfold Nd.size at hlen; omega) (by unfold Nd.size at hlen'; omega) hf.kids hg.kids (ht.below hb2) (ht'.below hb2))
  have HB := Lib.hid hb2
  clear ht ht' hb2 hsz hlen hlen' hf hg hv hset ih
  generalize sameF x.kids y.kids = v at *
  unfold ndV
  go_enter Tryz.func53, Tryz.ntmps53
  go_wp2_with fail
  refine HI.out.mono ?_
  rintro e w3 ⟨rfl, hb3⟩
  have HB3 := Lib.hid (HB.out.trans (hb3.mono HB.out.size))
  clear hb3 HI
  dsimp only
  go_wp2
  go_light
  go_ret
  exact ⟨rfl, HB3.out⟩
theorem tsamed_go (x y : Nd) (P P' : Nat → Prop) (B B' : Option Addr) (cap cap' : Nat) (w : World) (hx : x.size ≤ 100000000) (hy : y.size ≤ 100000000) (fx : FitT x) (fy : FitT y) (ht : TreesAt w P x.kids B) (ht' : TreesAt w P' y.kids B') :
  Calls Tryz.prog 53 #[ndV x B cap, ndV y B' cap'] w fun e w' => e = .returned (.bool (sameN x y)) ∧ Below w.heap.size w w' := by
 have h : ∀ n, TSameD n := by
  intro n
  induction n with
  | zero => exact fun x _ _ _ _ _ _ _ _ h => by unfold Nd.size at h; omega
  | succ n ih => exact tsamed_step (tequald_step ih)
 exact h x.size x y P P' B B' cap cap' w (Nat.le_refl _) hx hy fx fy ht ht'
end Go.Proofs.YtofbfafnpdaejaaGreatDoor
