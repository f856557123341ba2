/- Texts of the claim. -/
import Derived.Test.YtofbfafnpdaejaaGreatDoorLZ05
import Derived.Test.YtofbfafnpdaejaaGreatDoorLZ02
import Derived.Test.YtofbfafnpdaejaaGreatDoorLZ01
namespace Go.Proofs.YtofbfafnpdaejaaGreatDoor
open Go.RowKit
set_option linter.unusedSimpArgs false
set_option linter.unusedVariables false
set_option maxRecDepth 100000
set_option maxHeartbeats 8000000
def GroupsAt (w : World) (P : Nat → Prop) (gs : List (Nd × Option Addr × Nat)) (b o : Nat) : Prop :=
 ∀ i x B c, gs[i]? = some (x, B, c) → x.kids.len ≤ c ∧ NdAt w b (o + i * 8) x.kind x.set x.kids.len x.lo x.hi B c ∧ TreesAt w P x.kids B
theorem groups_of {w : World} {P : Nat → Prop} : ∀ {F : Trees} {A : Option Addr}, TreesAt w P F A → 0 < F.len → ∃ b o gs, A = some ⟨b, o, none⟩ ∧ P b ∧ gs.map (·.1) = F.list ∧ GroupsAt w P gs b o
 | .nil, _, _, h => by simp [Trees.len] at h
 | .cons k s ks lo hi r, A, ⟨b, o, B, cap, hA, hb, hc, hn, h1, h2⟩, _ => by
  rcases Nat.eq_zero_or_pos r.len with h0 | h0
  ·refine ⟨b, o, [(⟨k, s, ks, lo, hi⟩, B, cap)], hA, hb, ?_, fun i x C c hg => ?_⟩
   ·cases r with
    | nil => rfl
    | cons => simp [Trees.len] at h0
   ·match i, hg with
    | 0, hg =>
     simp at hg
     obtain ⟨rfl, rfl, rfl⟩ := hg
     exact ⟨hc, by simpa using hn, h1⟩
  ·obtain ⟨b', o', gs, hA', _, hm, hg⟩ := groups_of h2 h0
   cases hA'
   refine ⟨b, o, (⟨k, s, ks, lo, hi⟩, B, cap) :: gs, hA, hb, by rw [List.map_cons, hm]; rfl, fun i x C c hi => ?_⟩
   match i, hi with
   | 0, hi =>
    simp at hi
    obtain ⟨rfl, rfl, rfl⟩ := hi
    exact ⟨hc, by simpa using hn, h1⟩
   | i + 1, hi =>
    obtain ⟨g1, g2, g3⟩ := hg i x C c (by simpa using hi)
    refine ⟨g1, ?_, g3⟩
    rw [show o + (i + 1) * 8 = o + 8 + i * 8 by omega]
    exact g2
def gcell (a : Nd × Option Addr × Nat) : List Value := ndCell a.1 a.2.1 a.2.2
theorem gcell_len (a : Nd × Option Addr × Nat) : (gcell a).length = 8 := rfl
theorem gcells_len : ∀ gs : List (Nd × Option Addr × Nat), (gs.flatMap gcell).length = gs.length * 8
 | [] => rfl
 | a :: l => by
  rw [List.flatMap_cons, List.length_append, gcells_len l, gcell_len, List.length_cons]
  omega
theorem gcells_get : ∀ (gs : List (Nd × Option Addr × Nat)) (i : Nat) (a : Nd × Option Addr × Nat), gs[i]? = some a → ∀ j, j < 8 → (gs.flatMap gcell)[i * 8 + j]? = (gcell a)[j]?
 | [], i, a, h, _, _ => by simp at h
 | x :: l, 0, a, h, j, hj => by
  simp at h
  subst h
  rw [List.flatMap_cons, Nat.zero_mul, Nat.zero_add, List.getElem?_append_left (by rw [gcell_len]; exact hj)]
 | x :: l, i + 1, a, h, j, hj => by
  rw [List.flatMap_cons, List.getElem?_append_right (by rw [gcell_len]; omega), gcell_len, show (i + 1) * 8 + j - 8 = i * 8 + j by omega]
  exact gcells_get l i a (by simpa using h) j hj
theorem gcells_one (gs : List (Nd × Option Addr × Nat)) : ∀ u ∈ gs.flatMap gcell, u.oneCell' = true := by
 intro u hu
 obtain ⟨a, _, ha⟩ := List.mem_flatMap.1 hu
 simp only [gcell, ndCell, List.mem_cons, List.not_mem_nil, or_false] at ha
 rcases ha with rfl | rfl | rfl | rfl | rfl | rfl | rfl | rfl <;> rfl
theorem addr_plusR (b o j : Nat) : (⟨b, o, none⟩ : Addr).add j = ⟨b, o + j, none⟩ := by unfold Addr.add; split <;> simp_all
theorem gcells_at {w : World} {P : Nat → Prop} {gs : List (Nd × Option Addr × Nat)} {b o : Nat} (h : GroupsAt w P gs b o) : ∀ j u, (gs.flatMap gcell)[j]? = some u → w.cell? ((⟨b, o, none⟩ : Addr).add j) = some u := by
 intro j u hu
 have hlt : j < gs.length * 8 := by
  have := (List.getElem?_eq_some_iff.1 hu).1
  rwa [gcells_len] at this
 obtain ⟨a, ha⟩ : ∃ a, gs[j / 8]? = some a := ⟨_, List.getElem?_eq_getElem (by omega)⟩
 have hg := gcells_get gs (j / 8) a ha (j % 8) (by omega)
 rw [show j / 8 * 8 + j % 8 = j by omega, hu] at hg
 obtain ⟨x, B, c⟩ := a
 obtain ⟨_, hn, _⟩ := h _ _ _ _ ha
 rw [addr_plusR]
 have e : o + j = o + j / 8 * 8 + j % 8 := by omega
 rw [e]
 have h8 : j % 8 < 8 := by omega
 generalize j % 8 = c8 at *
 unfold gcell ndCell at hg
 match c8, h8 with
 | 0, _ => exact hn.1.trans hg.symm
 | 1, _ => exact hn.2.1.trans hg.symm
 | 2, _ => exact hn.2.2.1.trans hg.symm
 | 3, _ => exact hn.2.2.2.1.trans hg.symm
 | 4, _ => exact hn.2.2.2.2.1.trans hg.symm
 | 5, _ => exact hn.2.2.2.2.2.1.trans hg.symm
 | 6, _ => exact hn.2.2.2.2.2.2.1.trans hg.symm
 | 7, _ => exact hn.2.2.2.2.2.2.2.trans hg.symm
theorem rev_start {w : World} {base g cap : Nat} {gs : List (Nd × Option Addr × Nat)} (h : w.ownsRow base 28 8 (.slice (some ⟨g, 0, none⟩) gs.length cap) gs.length (gs.flatMap gcell)) : RevN w g gs 0 w := by
 rcases h.2 with ⟨h0, _⟩ | ⟨g', cap', cur, hv, _, hb, hle, _, hsz, htk⟩
 ·cases h0
 ·obtain ⟨⟨rfl⟩, _, rfl⟩ := Value.slice.inj hv
  refine ⟨cur, hb, by rw [hsz]; exact Nat.mul_le_mul_right 8 hle, fun p a hp ha j hj => ?_, ⟨rfl, rfl, rfl, Nat.le_refl _, fun _ _ _ => rfl⟩⟩
  rw [revAt_zero gs hp] at ha
  have := gcells_get gs p a ha j hj
  rw [← htk, List.getElem?_take, if_pos (by omega)] at this
  have h2 : cur[p * 8 + j]? = cur.toList[p * 8 + j]? := by simp
  exact h2.trans this
theorem rev_trees {w0 w : World} {g i : Nat} {gs : List (Nd × Option Addr × Nat)} {P : Nat → Prop} {F : Trees} (h : RevN w0 g gs i w) (hi : ¬ i < gs.length - 1 - i) (hm : gs.map (·.1) = F.list) (hk : ∀ x B c, (x, B, c) ∈ gs → x.kids.len ≤ c ∧ TreesAt w0 (fun b => P b ∧ b ≠ g) x.kids B) (hg : P g) : TreesAt w P (Trees.of F.list.reverse) (some ⟨g, 0, none⟩) := by
 obtain ⟨cur, h1, h2, h3, h4⟩ := h
 refine TreesAt.mk hg fun p x hx => ?_
 rw [Trees.list_of, ← hm, ← List.map_reverse, List.getElem?_map] at hx
 obtain ⟨⟨y, B, c⟩, hy, rfl⟩ := Option.map_eq_some_iff.1 hx
 have hp : p < gs.length := by have := (List.getElem?_eq_some_iff.1 hy).1; simpa using this
 have hc := h3 p _ hp ((revAt_done gs hp hi).trans hy)
 obtain ⟨k1, k2⟩ := hk y B c (List.mem_reverse.1 (List.mem_of_getElem? hy))
 have hat : ∀ j u, j < 8 → (ndCell y B c)[j]? = some u → w.cell? ⟨g, 0 + p * 8 + j, none⟩ = some u := fun j u hj hu => by
  rw [Nat.zero_add]
  exact (h1.cell (p * 8 + j)).trans ((hc j hj).trans hu)
 exact ⟨B, c, k1, ⟨hat 0 _ (by decide) rfl, hat 1 _ (by decide) rfl, hat 2 _ (by decide) rfl, hat 3 _ (by decide) rfl, hat 4 _ (by decide) rfl, hat 5 _ (by decide) rfl, hat 6 _ (by decide) rfl, hat 7 _ (by decide) rfl⟩,
  k2.keep (fun b o hb hl => World.cell?_of_block (h4.block b hl (fun e => hb.2 (Option.some.inj e)))) (fun b hb _ => hb.1)⟩
theorem revn_nil (w : World) : Calls Tryz.prog 110 #[.slice none 0 0] w fun e w' => e = .returned (.tuple #[]) ∧ w' = w := by
 go_enter Tryz.func110, Tryz.ntmps110
 go_wp2
 go_loopw [2, 3] (fun a b wr => a = .int .i64 0 ∧ b = .int .i64 (-1) ∧ wr = w) (fun _ _ _ => 0)
 case atStart => exact ⟨rfl, rfl, rfl⟩
 case round =>
  obtain ⟨rfl, rfl, rfl⟩ := hrel
  go_wp2
  go_light
  go_end0
  exact ⟨rfl, rfl⟩
theorem clone_go (F : Trees) (P : Nat → Prop) (A : Option Addr) (cap : Nat) (w : World) (ht : TreesAt w P F A) (hl : 0 < F.len) (hl2 : F.len ≤ 2000000) :
  Calls Tryz.prog 109 #[.slice A F.len cap] w fun e w' => ∃ (g cap' : Nat) (gs : List (Nd × Option Addr × Nat)), e = .returned (.slice (some ⟨g, 0, none⟩) F.len cap') ∧ Below w.heap.size w w' ∧ w.heap.size ≤ g ∧ gs.map (·.1) = F.list ∧ F.len ≤ cap' ∧
   w'.ownsRow w.heap.size 28 8 (.slice (some ⟨g, 0, none⟩) gs.length cap') gs.length (gs.flatMap gcell) ∧ ∀ x B c, (x, B, c) ∈ gs → x.kids.len ≤ c ∧ TreesAt w' (fun b => P b ∧ b < w.heap.size) x.kids B := by
 obtain ⟨b, o, gs, rfl, hPb, hm, hg⟩ := groups_of ht hl
 have hgl : gs.length = F.len := by rw [← F.len_list, ← hm, List.length_map]
 have hB1 : Below w.heap.size w (w.alloc (.cells #[] 28)) := (Below.refl _ _).alloc (Nat.le_refl _) _
 obtain ⟨i0, hi, hz0, hz1, hz2⟩ := info_parts info_nd
 have hg1 : GroupsAt (w.alloc (.cells #[] 28)) P gs b o := fun i x B c h => by
  obtain ⟨k1, k2, k3⟩ := hg i x B c h
  have hbl := World.block_lt_of_cell? w _ k2.1
  exact ⟨k1, k2.keep (fun o' => hB1.cell (p := ⟨b, o', none⟩) hbl), k3.below hB1⟩
 obtain ⟨v', w', hr, hown, hgrow, _, hblk⟩ := run_append_own_at (P := Tryz.prog) (w.alloc (.cells #[] 28)) w.heap.size 26 26 28 i0 _ 8 80 Tryz.underlying26 hi hz0 hz1 hz2 rfl (by decide) (.slice (some ⟨w.heap.size, 0, none⟩) 0 0) 0 [] (World.ownsRow_made w #[] 0 (Nat.le_refl _) (Nat.zero_le _) rfl) ⟨b, o, none⟩ F.len cap (gs.flatMap gcell) (by rw [gcells_len, hgl]) (gcells_at hg1) (gcells_one gs) (by unfold maxLen; omega) (by omega) (by simp)
 have q26 : ∀ (w : World) (a : Option Addr) (n c n' c' : Nat), (binOp .eql 26 (.slice a n c) (.slice none n' c')).run Tryz.prog w = .ok (.bool a.isNone) w := fun w a n c n' c' => Lib.run_eql_slice_nil w _ _ a n c n' c' Tryz.underlying26
 have HR := Lib.hid hr
 have hB2 : Below w.heap.size w w' := hB1.grown hgrow (by simp) (fun k hk => by simp [Value.ownBlock] at hk; omega)
 have HQ := Lib.hid (show _ ∧ _ ∧ _ ∧ _ from ⟨hm, hg, hown, hB2⟩)
 clear hg1 hr hown hgrow hblk hB1 hg hm ht hB2
 go_enter Tryz.func109, Tryz.ntmps109
 go_wp2_with (at_builtin; refine wpList_append_by (by rfl) _ _ _ _ rfl _ _ _ _ rfl rfl HR.out ?_)
 go_light
 go_ret
 obtain ⟨hm, hg, hown, hB2⟩ := HQ.out
 rw [Nat.zero_add, List.nil_append, ← hgl] at hown
 obtain ⟨g, cap', hv, hge, _⟩ := own_form hown (by omega)
 subst hv
 refine ⟨g, cap', gs, by show Ending.returned (.slice (some ⟨g, 0, none⟩) gs.length cap') = _; rw [hgl], hB2, hge, hm, ?_, hown, fun x B c hx => ?_⟩
 ·rcases hown.2 with ⟨h0, _⟩ | ⟨g', c', cur, hv, _, _, hle, _⟩
  ·cases h0
  ·cases hv; omega
 ·obtain ⟨i, hi'⟩ := List.getElem?_of_mem hx
  obtain ⟨k1, _, k3⟩ := hg i x B c hi'
  exact ⟨k1, (k3.weak (Q := fun b => P b ∧ b < w.heap.size) (fun b hb hl => ⟨hb, hl⟩)).below hB2⟩
theorem clone_nil (w : World) : Calls Tryz.prog 109 #[.slice none 0 0] w fun e w' => e = .returned (.slice none 0 0) ∧ w' = w := by
 have q26 : ∀ (w : World) (a : Option Addr) (n c n' c' : Nat), (binOp .eql 26 (.slice a n c) (.slice none n' c')).run Tryz.prog w = .ok (.bool a.isNone) w := fun w a n c n' c' => Lib.run_eql_slice_nil w _ _ a n c n' c' Tryz.underlying26
 go_enter Tryz.func109, Tryz.ntmps109
 go_wp2
 go_light
 go_ret
 exact ⟨rfl, rfl⟩
theorem turned_go (F : Trees) (P : Nat → Prop) (A : Option Addr) (cap : Nat) (w : World) (ht : TreesAt w P F A) (hl2 : F.len ≤ 2000000) (hn : F.len = 0 → A = none ∧ cap = 0) :
  Calls Tryz.prog 54 #[.slice A F.len cap] w fun e w' => ∃ A' cap', e = .returned (.slice A' F.len cap') ∧ Below w.heap.size w w' ∧ F.len ≤ cap' ∧ TreesAt w' (fun b => (P b ∧ b < w.heap.size) ∨ w.heap.size ≤ b) (Trees.of F.list.reverse) A' := by
 rcases Nat.eq_zero_or_pos F.len with h0 | h0
 ·obtain ⟨rfl, rfl⟩ := hn h0
  have hF : F.list.reverse = [] := by
   have : F.list.length = 0 := by rw [F.len_list]; exact h0
   rw [List.length_eq_zero_iff.1 this]
   rfl
  have HF := Lib.hid hF
  have H0 := Lib.hid h0
  rw [h0]
  clear ht hn h0 hF
  go_enter Tryz.func54, Tryz.ntmps54
  go_wp2_with fail
  refine (clone_nil w).mono ?_
  rintro e w1 ⟨rfl, rfl⟩
  dsimp only
  go_wp2_with fail
  refine (revn_nil _).mono ?_
  rintro e w2 ⟨rfl, rfl⟩
  dsimp only
  go_wp2
  go_light
  go_ret
  exact ⟨none, 0, rfl, Below.refl _ _, Nat.le_refl _, by rw [HF.out]; trivial⟩
 ·have HC := Lib.hid (clone_go F P A cap w ht h0 hl2)
  clear ht hn
  go_enter Tryz.func54, Tryz.ntmps54
  go_wp2_with fail
  refine HC.out.mono ?_
  rintro e w1 ⟨g, cap', gs, rfl, hb1, hg, hm, hcap, hown, hk⟩
  have hgl : gs.length = F.len := by rw [← F.len_list, ← hm, List.length_map]
  have hR := revn_go g cap' gs w1 (rev_start hown) (by omega)
  rw [hgl] at hR
  have HR := Lib.hid hR
  have HQ := Lib.hid (show _ ∧ _ ∧ _ ∧ _ ∧ _ from ⟨hb1, hg, hm, hcap, hk⟩)
  clear hb1 hg hm hcap hown hk hR HC hgl
  dsimp only
  go_wp2_with fail
  refine HR.out.mono ?_
  rintro e w2 ⟨rfl, i, hrev, hi⟩
  have HV := Lib.hid (show _ ∧ _ from ⟨hrev, hi⟩)
  clear hrev hi HR
  dsimp only
  go_wp2
  go_light
  go_ret
  obtain ⟨hb1, hg, hm, hcap, hk⟩ := HQ.out
  obtain ⟨hrev, hi⟩ := HV.out
  have hgr : w1.grownBy w2 (some g) := by obtain ⟨_, _, _, _, h4⟩ := hrev; exact h4
  have hgl : gs.length = F.len := by rw [← F.len_list, ← hm, List.length_map]
  refine ⟨_, cap', rfl, hb1.grown hgr hb1.size (fun k e => by have := Option.some.inj e; omega), hcap, ?_⟩
  exact rev_trees hrev (by rw [hgl]; exact hi) hm (fun x B c hx => ⟨(hk x B c hx).1, (hk x B c hx).2.keep (fun _ _ _ _ => rfl) (fun b hb _ => ⟨.inl hb, by omega⟩)⟩) (.inr hg)
end Go.Proofs.YtofbfafnpdaejaaGreatDoor
