/- Texts of the claim. -/
import Derived.Test.YtofbfafnpdaejaaGreatDoorMMatLa
import Derived.Test.YtofbfafnpdaejaaGreatDoorMMatX
import Derived.Test.YtofbfafnpdaejaaGreatDoorMMatO
namespace Go.Proofs.YtofbfafnpdaejaaGreatDoor
open Go.RowKit Go.Maps
set_option linter.unusedSimpArgs false
set_option linter.unusedVariables false
set_option maxRecDepth 100000
set_option maxHeartbeats 8000000
def errF (x : Nd) (bs : List Nat) (i : Int) : Int := if rightT x = false then 6 else if 256 < bs.length then 4 else if i < 0 ∨ (bs.length : Int) < i then 1 else 0
noncomputable def findB (x : Nd) (bs : List Nat) (i : Int) : Nat → Bool := if errF x bs i = 0 then endsB x bs i.toNat else fun _ => false
theorem errF_zero {x : Nd} {bs : List Nat} {i : Int} (h : errF x bs i = 0) : rightT x = true ∧ bs.length ≤ 256 ∧ 0 ≤ i ∧ i ≤ (bs.length : Int) := by
 unfold errF at h
 split at h
 ·omega
 split at h
 ·omega
 split at h
 ·omega
 ·rename_i h1 h2 h3
  exact ⟨by simpa using h1, by omega, by omega, by omega⟩
theorem findB_no {x : Nd} {bs : List Nat} {i : Int} (h : errF x bs i ≠ 0) : findB x bs i = fun _ => false := by unfold findB; rw [if_neg h]
theorem findB_yes {x : Nd} {bs : List Nat} {i : Int} (h : errF x bs i = 0) : findB x bs i = endsB x bs i.toNat := by unfold findB; rw [if_pos h]
theorem ret_find {fn : Func} {t2 t3 : Tmp} (h : fn.results = #[.cell t2 69, .tmp t3]) {tmps : Array Value} {w : World} {g : Nat} {a0 a1 a2 a3 a4 c : Value}
  (hp : tmps.getD t2 undef = .pointer (some ⟨g, 0, none⟩)) (hc : tmps.getD t3 undef = c) (hb : Blk w g 69 #[a0, a1, a2, a3, a4]) :
  (results fn tmps).run Tryz.prog w = .ok (.tuple #[.agg #[a0, a1, a2, a3, a4], c]) w := by
 have h1 := run_loadVar_row (P := Tryz.prog) w g 69 69 #[a0, a1, a2, a3, a4] (0, 0) _ hb Tryz.underlying69 rfl (by kernel_rfl)
 simp only [results, h]
 simp only [Array.getD_eq_getD_getElem?] at hp hc
 simp [Sem.run_bind, hp, hc, asAddr, h1, Result.andThen]
theorem mat_made {x : Nd} {bs : List Nat} {base gm b cp cv : Nat} {V : Option Addr} {w3 : World} {xs : List Value} {Q : Nat → Prop}
  (hbox : Blk w3 gm 132 #[.slice (some ⟨b, 0, none⟩) x.size cp, .slice V bs.length cv, .map (some base)]) (hrow : w3.ownsRow base 172 9 (.slice (some ⟨b, 0, none⟩) x.size cp) x.size xs) (hp : PartsL w3 base Q 0 x.nodes xs)
  (hV : BytesAt w3 base V bs) (hl : bs.length ≤ 256) (hm : MemoAt askV okA (goodM x bs) w3 base) (hT : TabAt 0 Lib.deBruijn64tab w3) (hg : 0 < base) (hs : x.size ≤ 1000000) :
  MatAt w3 x bs base gm b cp base V cv := by
 refine ⟨hbox, fun k z hz => ?_, ?_, hV, hl, hm, hT, hg, Nat.le_refl _, hs⟩
 ·obtain ⟨B, n1, c1, A, c2, h1, h2⟩ := hp.get hz
  have hk : k < x.size := by rw [← Nd.nodes_len]; exact (List.getElem?_eq_some_iff.1 hz).1
  have hc : ∀ j u, j < 9 → (pcell z B n1 c1 A z.kids.len c2)[j]? = some u → w3.cell? ⟨b, k * 9 + j, none⟩ = some u := fun j u hj hu => by
   rw [hrow.cellAt _ (by omega)]
   exact h1 j u hu
  obtain ⟨A', c', e, hle⟩ := row_form h2
  cases e
  have hlen : z.kids.len = (kidNums (0 + k + 1) z.kids.list).length := by rw [kidNums_len, Trees.len_list]
  refine ⟨B, A, n1, c1, c2, hc 0 _ (by omega) rfl, hc 1 _ (by omega) rfl, hc 2 _ (by omega) rfl, hc 3 _ (by omega) rfl, hc 4 _ (by omega) rfl, hc 5 _ (by omega) rfl, hc 6 _ (by omega) rfl, hc 7 _ (by omega) rfl, hc 8 _ (by omega) rfl, ?_, hle⟩
  rw [hlen, Nat.zero_add] at h2
  exact own_intsC h2
 ·obtain ⟨A, c, e, h⟩ := row_form hrow
  cases e
  exact h
theorem right_okays {x : Nd} (h : rightT x = true) : ∀ y ∈ x.nodes, aloneN y = true := by
 unfold rightT at h
 rw [Bool.and_eq_true, List.all_eq_true] at h
 exact h.2
theorem right_small {x : Nd} (h : rightT x = true) : x.size ≤ 4096 := by
 unfold rightT at h
 rw [Bool.and_eq_true, decide_eq_true_eq, Nd.nodes_len] at h
 exact h.1
theorem root_below (x : Nd) : Below1 x.nodes 0 x := fun j u h => by rw [Nat.zero_add]; exact h
theorem find_kind (x : Nd) (B : Option Addr) (cap : Nat) (V : Option Addr) (cv : Nat) (i : Int) (bs : List Nat) (w : World) (hsz : x.size ≤ 4611686018427387903) (hcap : x.kids.len ≤ cap) (ht : TreesAt w (fun b => b < w.heap.size) x.kids B) (hV : BytesAt w w.heap.size V bs) (hT : TabAt 0 Lib.deBruijn64tab w) (hg : 0 < w.heap.size) (hr : rightT x = false) : Calls Tryz.prog 56 #[ndV x B cap, .slice V bs.length cv, .int .i64 i] w fun e w' => e = .returned (.tuple #[.agg #[.int .u64 (word (findB x bs i) 0), .int .u64 (word (findB x bs i) 1), .int .u64 (word (findB x bs i) 2), .int .u64 (word (findB x bs i) 3), .int .u64 (word (findB x bs i) 4)], .int .i64 (errF x bs i)]) ∧ Below w.heap.size w w' := by
 have HF := Lib.hid (show errF x bs i = 6 ∧ True from ⟨by unfold errF; rw [if_pos hr], trivial⟩)
 obtain ⟨W0, hW0⟩ : ∃ W0, (w.alloc (.cells (ndA x B cap) 28)).alloc (.cells #[.int .u64 0, .int .u64 0, .int .u64 0, .int .u64 0, .int .u64 0] 69) = W0 := ⟨_, rfl⟩
 have hal : Below w.heap.size w W0 := by rw [← hW0]; exact ((Below.refl _ _).alloc (Nat.le_refl _) _).alloc (by simp) _
 have hX : Blk W0 w.heap.size 28 (ndA x B cap) := by rw [← hW0]; exact (Blk.new w _ _).alloc _
 have hR : Blk W0 (w.heap.size + 1) 69 #[.int .u64 0, .int .u64 0, .int .u64 0, .int .u64 0, .int .u64 0] := by rw [← hW0]; exact Blk.new_at (by simp)
 have HC := Lib.hid (tright_any x B cap W0 hsz ((ht.below hal).weak (fun b h _ => Nat.lt_of_lt_of_le h hal.size)))
 have HX := Lib.hid hX
 have HR := Lib.hid hR
 have HAL := Lib.hid hal
 obtain ⟨x0, x1, x2, x3, x4, x5, x6, x7⟩ : _ ∧ _ ∧ _ ∧ _ ∧ _ ∧ _ ∧ _ ∧ _ := ⟨hX.cell 0, hX.cell 1, hX.cell 2, hX.cell 3, hX.cell 4, hX.cell 5, hX.cell 6, hX.cell 7⟩
 have lx := hX.lt
 unfold ndA at x0 x1 x2 x3 x4 x5 x6 x7 hW0
 simp only [List.getElem?_toArray, List.getElem?_cons_zero, List.getElem?_cons_succ] at x0 x1 x2 x3 x4 x5 x6 x7
 unfold ndV at HC ⊢
 rw [hr] at HC
 clear hr
 clear ht hV hT hX hR hal
 go_enter Tryz.func56, Tryz.ntmps56
 go_wp2_with fail
 refine HC.out.mono ?_
 rintro _ w1 ⟨rfl, hb1⟩
 have hR1 := HR.out.below hb1 HR.out.lt
 have HX1 := Lib.hid (HX.out.below hb1 HX.out.lt)
 have HB1 := Lib.hid (HAL.out.trans (hb1.mono HAL.out.size))
 have HR1 := Lib.hid hR1
 obtain ⟨r0, r1, r2, r3, r4⟩ := hR1.c5w
 obtain ⟨f0, f1, f2, f3, f4⟩ := hR1.f5w
 have lr := hR1.lt
 clear hb1 hR1 HC HX HR HAL x0 x1 x2 x3 x4 x5 x6 x7 lx hW0
 dsimp only
 go_wp2
 have h5 := HR1.out.put5 (fun _ => false)
 have hs5 := stow_none w1 (w.heap.size + 1)
 have hb5 : Below w.heap.size w (stow5 w1 (w.heap.size + 1) (fun _ => false)) := HB1.out.grown (grown5 _ _ _) HB1.out.size (fun k e => by cases e; omega)
 rw [hs5] at h5 hb5
 simp only [word_none] at h5
 exact bodyPost_ret (ret_find Tryz.results56 rfl rfl h5) rfl ⟨by rw [HF.out.1, findB_no (by rw [HF.out.1]; decide)]; simp only [word_none]; rfl, hb5⟩
theorem find_long (x : Nd) (B : Option Addr) (cap : Nat) (V : Option Addr) (cv : Nat) (i : Int) (bs : List Nat) (w : World) (hsz : x.size ≤ 4611686018427387903) (hcap : x.kids.len ≤ cap) (ht : TreesAt w (fun b => b < w.heap.size) x.kids B) (hV : BytesAt w w.heap.size V bs) (hT : TabAt 0 Lib.deBruijn64tab w) (hg : 0 < w.heap.size) (hr : rightT x = true) (hl : 256 < bs.length) : Calls Tryz.prog 56 #[ndV x B cap, .slice V bs.length cv, .int .i64 i] w fun e w' => e = .returned (.tuple #[.agg #[.int .u64 (word (findB x bs i) 0), .int .u64 (word (findB x bs i) 1), .int .u64 (word (findB x bs i) 2), .int .u64 (word (findB x bs i) 3), .int .u64 (word (findB x bs i) 4)], .int .i64 (errF x bs i)]) ∧ Below w.heap.size w w' := by
 have HF := Lib.hid (show errF x bs i = 4 ∧ True from ⟨by unfold errF; rw [if_neg (by rw [hr]; decide), if_pos hl], trivial⟩)
 obtain ⟨W0, hW0⟩ : ∃ W0, (w.alloc (.cells (ndA x B cap) 28)).alloc (.cells #[.int .u64 0, .int .u64 0, .int .u64 0, .int .u64 0, .int .u64 0] 69) = W0 := ⟨_, rfl⟩
 have hal : Below w.heap.size w W0 := by rw [← hW0]; exact ((Below.refl _ _).alloc (Nat.le_refl _) _).alloc (by simp) _
 have hX : Blk W0 w.heap.size 28 (ndA x B cap) := by rw [← hW0]; exact (Blk.new w _ _).alloc _
 have hR : Blk W0 (w.heap.size + 1) 69 #[.int .u64 0, .int .u64 0, .int .u64 0, .int .u64 0, .int .u64 0] := by rw [← hW0]; exact Blk.new_at (by simp)
 have HC := Lib.hid (tright_any x B cap W0 hsz ((ht.below hal).weak (fun b h _ => Nat.lt_of_lt_of_le h hal.size)))
 have HX := Lib.hid hX
 have HR := Lib.hid hR
 have HAL := Lib.hid hal
 obtain ⟨x0, x1, x2, x3, x4, x5, x6, x7⟩ : _ ∧ _ ∧ _ ∧ _ ∧ _ ∧ _ ∧ _ ∧ _ := ⟨hX.cell 0, hX.cell 1, hX.cell 2, hX.cell 3, hX.cell 4, hX.cell 5, hX.cell 6, hX.cell 7⟩
 have lx := hX.lt
 unfold ndA at x0 x1 x2 x3 x4 x5 x6 x7 hW0
 simp only [List.getElem?_toArray, List.getElem?_cons_zero, List.getElem?_cons_succ] at x0 x1 x2 x3 x4 x5 x6 x7
 unfold ndV at HC ⊢
 rw [hr] at HC
 have hd1 : (256 : Int) < (bs.length : Int) := by omega
 clear hr hl
 clear ht hV hT hX hR hal
 go_enter Tryz.func56, Tryz.ntmps56
 go_wp2_with fail
 refine HC.out.mono ?_
 rintro _ w1 ⟨rfl, hb1⟩
 have hR1 := HR.out.below hb1 HR.out.lt
 have HX1 := Lib.hid (HX.out.below hb1 HX.out.lt)
 have HB1 := Lib.hid (HAL.out.trans (hb1.mono HAL.out.size))
 have HR1 := Lib.hid hR1
 obtain ⟨r0, r1, r2, r3, r4⟩ := hR1.c5w
 obtain ⟨f0, f1, f2, f3, f4⟩ := hR1.f5w
 have lr := hR1.lt
 clear hb1 hR1 HC HX HR HAL x0 x1 x2 x3 x4 x5 x6 x7 lx hW0
 dsimp only
 go_wp2
 have h5 := HR1.out.put5 (fun _ => false)
 have hs5 := stow_none w1 (w.heap.size + 1)
 have hb5 : Below w.heap.size w (stow5 w1 (w.heap.size + 1) (fun _ => false)) := HB1.out.grown (grown5 _ _ _) HB1.out.size (fun k e => by cases e; omega)
 rw [hs5] at h5 hb5
 simp only [word_none] at h5
 exact bodyPost_ret (ret_find Tryz.results56 rfl rfl h5) rfl ⟨by rw [HF.out.1, findB_no (by rw [HF.out.1]; decide)]; simp only [word_none]; rfl, hb5⟩
theorem find_low (x : Nd) (B : Option Addr) (cap : Nat) (V : Option Addr) (cv : Nat) (i : Int) (bs : List Nat) (w : World) (hsz : x.size ≤ 4611686018427387903) (hcap : x.kids.len ≤ cap) (ht : TreesAt w (fun b => b < w.heap.size) x.kids B) (hV : BytesAt w w.heap.size V bs) (hT : TabAt 0 Lib.deBruijn64tab w) (hg : 0 < w.heap.size) (hr : rightT x = true) (hl : bs.length ≤ 256) (hi : i < 0) : Calls Tryz.prog 56 #[ndV x B cap, .slice V bs.length cv, .int .i64 i] w fun e w' => e = .returned (.tuple #[.agg #[.int .u64 (word (findB x bs i) 0), .int .u64 (word (findB x bs i) 1), .int .u64 (word (findB x bs i) 2), .int .u64 (word (findB x bs i) 3), .int .u64 (word (findB x bs i) 4)], .int .i64 (errF x bs i)]) ∧ Below w.heap.size w w' := by
 have HF := Lib.hid (show errF x bs i = 1 ∧ True from ⟨by unfold errF; rw [if_neg (by rw [hr]; decide), if_neg (by omega), if_pos (.inl hi)], trivial⟩)
 obtain ⟨W0, hW0⟩ : ∃ W0, (w.alloc (.cells (ndA x B cap) 28)).alloc (.cells #[.int .u64 0, .int .u64 0, .int .u64 0, .int .u64 0, .int .u64 0] 69) = W0 := ⟨_, rfl⟩
 have hal : Below w.heap.size w W0 := by rw [← hW0]; exact ((Below.refl _ _).alloc (Nat.le_refl _) _).alloc (by simp) _
 have hX : Blk W0 w.heap.size 28 (ndA x B cap) := by rw [← hW0]; exact (Blk.new w _ _).alloc _
 have hR : Blk W0 (w.heap.size + 1) 69 #[.int .u64 0, .int .u64 0, .int .u64 0, .int .u64 0, .int .u64 0] := by rw [← hW0]; exact Blk.new_at (by simp)
 have HC := Lib.hid (tright_any x B cap W0 hsz ((ht.below hal).weak (fun b h _ => Nat.lt_of_lt_of_le h hal.size)))
 have HX := Lib.hid hX
 have HR := Lib.hid hR
 have HAL := Lib.hid hal
 obtain ⟨x0, x1, x2, x3, x4, x5, x6, x7⟩ : _ ∧ _ ∧ _ ∧ _ ∧ _ ∧ _ ∧ _ ∧ _ := ⟨hX.cell 0, hX.cell 1, hX.cell 2, hX.cell 3, hX.cell 4, hX.cell 5, hX.cell 6, hX.cell 7⟩
 have lx := hX.lt
 unfold ndA at x0 x1 x2 x3 x4 x5 x6 x7 hW0
 simp only [List.getElem?_toArray, List.getElem?_cons_zero, List.getElem?_cons_succ] at x0 x1 x2 x3 x4 x5 x6 x7
 unfold ndV at HC ⊢
 rw [hr] at HC
 have hd1 : ¬ (256 : Int) < (bs.length : Int) := by omega
 clear hr hl
 clear ht hV hT hX hR hal
 go_enter Tryz.func56, Tryz.ntmps56
 go_wp2_with fail
 refine HC.out.mono ?_
 rintro _ w1 ⟨rfl, hb1⟩
 have hR1 := HR.out.below hb1 HR.out.lt
 have HX1 := Lib.hid (HX.out.below hb1 HX.out.lt)
 have HB1 := Lib.hid (HAL.out.trans (hb1.mono HAL.out.size))
 have HR1 := Lib.hid hR1
 obtain ⟨r0, r1, r2, r3, r4⟩ := hR1.c5w
 obtain ⟨f0, f1, f2, f3, f4⟩ := hR1.f5w
 have lr := hR1.lt
 clear hb1 hR1 HC HX HR HAL x0 x1 x2 x3 x4 x5 x6 x7 lx hW0
 dsimp only
 go_wp2
 have h5 := HR1.out.put5 (fun _ => false)
 have hs5 := stow_none w1 (w.heap.size + 1)
 have hb5 : Below w.heap.size w (stow5 w1 (w.heap.size + 1) (fun _ => false)) := HB1.out.grown (grown5 _ _ _) HB1.out.size (fun k e => by cases e; omega)
 rw [hs5] at h5 hb5
 simp only [word_none] at h5
 exact bodyPost_ret (ret_find Tryz.results56 rfl rfl h5) rfl ⟨by rw [HF.out.1, findB_no (by rw [HF.out.1]; decide)]; simp only [word_none]; rfl, hb5⟩
theorem find_high (x : Nd) (B : Option Addr) (cap : Nat) (V : Option Addr) (cv : Nat) (i : Int) (bs : List Nat) (w : World) (hsz : x.size ≤ 4611686018427387903) (hcap : x.kids.len ≤ cap) (ht : TreesAt w (fun b => b < w.heap.size) x.kids B) (hV : BytesAt w w.heap.size V bs) (hT : TabAt 0 Lib.deBruijn64tab w) (hg : 0 < w.heap.size) (hr : rightT x = true) (hl : bs.length ≤ 256) (hi : 0 ≤ i) (hi2 : (bs.length : Int) < i) : Calls Tryz.prog 56 #[ndV x B cap, .slice V bs.length cv, .int .i64 i] w fun e w' => e = .returned (.tuple #[.agg #[.int .u64 (word (findB x bs i) 0), .int .u64 (word (findB x bs i) 1), .int .u64 (word (findB x bs i) 2), .int .u64 (word (findB x bs i) 3), .int .u64 (word (findB x bs i) 4)], .int .i64 (errF x bs i)]) ∧ Below w.heap.size w w' := by
 have HF := Lib.hid (show errF x bs i = 1 ∧ True from ⟨by unfold errF; rw [if_neg (by rw [hr]; decide), if_neg (by omega), if_pos (.inr hi2)], trivial⟩)
 obtain ⟨W0, hW0⟩ : ∃ W0, (w.alloc (.cells (ndA x B cap) 28)).alloc (.cells #[.int .u64 0, .int .u64 0, .int .u64 0, .int .u64 0, .int .u64 0] 69) = W0 := ⟨_, rfl⟩
 have hal : Below w.heap.size w W0 := by rw [← hW0]; exact ((Below.refl _ _).alloc (Nat.le_refl _) _).alloc (by simp) _
 have hX : Blk W0 w.heap.size 28 (ndA x B cap) := by rw [← hW0]; exact (Blk.new w _ _).alloc _
 have hR : Blk W0 (w.heap.size + 1) 69 #[.int .u64 0, .int .u64 0, .int .u64 0, .int .u64 0, .int .u64 0] := by rw [← hW0]; exact Blk.new_at (by simp)
 have HC := Lib.hid (tright_any x B cap W0 hsz ((ht.below hal).weak (fun b h _ => Nat.lt_of_lt_of_le h hal.size)))
 have HX := Lib.hid hX
 have HR := Lib.hid hR
 have HAL := Lib.hid hal
 obtain ⟨x0, x1, x2, x3, x4, x5, x6, x7⟩ : _ ∧ _ ∧ _ ∧ _ ∧ _ ∧ _ ∧ _ ∧ _ := ⟨hX.cell 0, hX.cell 1, hX.cell 2, hX.cell 3, hX.cell 4, hX.cell 5, hX.cell 6, hX.cell 7⟩
 have lx := hX.lt
 unfold ndA at x0 x1 x2 x3 x4 x5 x6 x7 hW0
 simp only [List.getElem?_toArray, List.getElem?_cons_zero, List.getElem?_cons_succ] at x0 x1 x2 x3 x4 x5 x6 x7
 unfold ndV at HC ⊢
 rw [hr] at HC
 have hd1 : ¬ (256 : Int) < (bs.length : Int) := by omega
 have hd2 : ¬ i < 0 := by omega
 clear hr hl hi
 clear ht hV hT hX hR hal
 go_enter Tryz.func56, Tryz.ntmps56
 go_wp2_with fail
 refine HC.out.mono ?_
 rintro _ w1 ⟨rfl, hb1⟩
 have hR1 := HR.out.below hb1 HR.out.lt
 have HX1 := Lib.hid (HX.out.below hb1 HX.out.lt)
 have HB1 := Lib.hid (HAL.out.trans (hb1.mono HAL.out.size))
 have HR1 := Lib.hid hR1
 obtain ⟨r0, r1, r2, r3, r4⟩ := hR1.c5w
 obtain ⟨f0, f1, f2, f3, f4⟩ := hR1.f5w
 have lr := hR1.lt
 clear hb1 hR1 HC HX HR HAL x0 x1 x2 x3 x4 x5 x6 x7 lx hW0
 dsimp only
 go_wp2
 have h5 := HR1.out.put5 (fun _ => false)
 have hs5 := stow_none w1 (w.heap.size + 1)
 have hb5 : Below w.heap.size w (stow5 w1 (w.heap.size + 1) (fun _ => false)) := HB1.out.grown (grown5 _ _ _) HB1.out.size (fun k e => by cases e; omega)
 rw [hs5] at h5 hb5
 simp only [word_none] at h5
 exact bodyPost_ret (ret_find Tryz.results56 rfl rfl h5) rfl ⟨by rw [HF.out.1, findB_no (by rw [HF.out.1]; decide)]; simp only [word_none]; rfl, hb5⟩
theorem find_yes (x : Nd) (B : Option Addr) (cap : Nat) (V : Option Addr) (cv : Nat) (i : Int) (bs : List Nat) (w : World) (hsz : x.size ≤ 4611686018427387903) (hcap : x.kids.len ≤ cap) (ht : TreesAt w (fun b => b < w.heap.size) x.kids B) (hV : BytesAt w w.heap.size V bs) (hT : TabAt 0 Lib.deBruijn64tab w) (hg : 0 < w.heap.size) (hr : rightT x = true) (hl : bs.length ≤ 256) (i0 : Nat) (hi : i = (i0 : Int)) (hi2 : i0 ≤ bs.length) : Calls Tryz.prog 56 #[ndV x B cap, .slice V bs.length cv, .int .i64 i] w fun e w' => e = .returned (.tuple #[.agg #[.int .u64 (word (findB x bs i) 0), .int .u64 (word (findB x bs i) 1), .int .u64 (word (findB x bs i) 2), .int .u64 (word (findB x bs i) 3), .int .u64 (word (findB x bs i) 4)], .int .i64 (errF x bs i)]) ∧ Below w.heap.size w w' := by
 have hF0 : errF x bs i = 0 := by unfold errF; rw [if_neg (by rw [hr]; decide), if_neg (by omega), if_neg (by omega)]
 have HF := Lib.hid (show errF x bs i = 0 ∧ findB x bs i = endsB x bs i0 from ⟨hF0, by rw [findB_yes hF0, hi]; rfl⟩)
 obtain ⟨W0, hW0⟩ : ∃ W0, (w.alloc (.cells (ndA x B cap) 28)).alloc (.cells #[.int .u64 0, .int .u64 0, .int .u64 0, .int .u64 0, .int .u64 0] 69) = W0 := ⟨_, rfl⟩
 have hal : Below w.heap.size w W0 := by rw [← hW0]; exact ((Below.refl _ _).alloc (Nat.le_refl _) _).alloc (by simp) _
 have hX : Blk W0 w.heap.size 28 (ndA x B cap) := by rw [← hW0]; exact (Blk.new w _ _).alloc _
 have hR : Blk W0 (w.heap.size + 1) 69 #[.int .u64 0, .int .u64 0, .int .u64 0, .int .u64 0, .int .u64 0] := by rw [← hW0]; exact Blk.new_at (by simp)
 have HC := Lib.hid (tright_any x B cap W0 hsz ((ht.below hal).weak (fun b h _ => Nat.lt_of_lt_of_le h hal.size)))
 have HX := Lib.hid hX
 have HR := Lib.hid hR
 have HAL := Lib.hid hal
 obtain ⟨x0, x1, x2, x3, x4, x5, x6, x7⟩ : _ ∧ _ ∧ _ ∧ _ ∧ _ ∧ _ ∧ _ ∧ _ := ⟨hX.cell 0, hX.cell 1, hX.cell 2, hX.cell 3, hX.cell 4, hX.cell 5, hX.cell 6, hX.cell 7⟩
 have lx := hX.lt
 unfold ndA at x0 x1 x2 x3 x4 x5 x6 x7 hW0
 simp only [List.getElem?_toArray, List.getElem?_cons_zero, List.getElem?_cons_succ] at x0 x1 x2 x3 x4 x5 x6 x7
 unfold ndV at HC ⊢
 rw [hr] at HC
 have hd1 : ¬ (256 : Int) < (bs.length : Int) := by omega
 have hd2 : ¬ (i0 : Int) < 0 := by omega
 have hd3 : ¬ (bs.length : Int) < (i0 : Int) := by omega
 have HT := Lib.hid ht
 have HV := Lib.hid hV
 have HTB := Lib.hid hT
 have HO := Lib.hid (right_okays hr)
 have HS := Lib.hid (right_small hr)
 clear ht hV hT hX hR hal hr hF0
 subst hi
 go_enter Tryz.func56, Tryz.ntmps56
 go_wp2_with fail
 refine HC.out.mono ?_
 rintro _ w1 ⟨rfl, hb1⟩
 have hR1 := HR.out.below hb1 HR.out.lt
 have HX1 := Lib.hid (HX.out.below hb1 HX.out.lt)
 have HB1 := Lib.hid (HAL.out.trans (hb1.mono HAL.out.size))
 have HR1 := Lib.hid hR1
 obtain ⟨r0, r1, r2, r3, r4⟩ := hR1.c5w
 obtain ⟨f0, f1, f2, f3, f4⟩ := hR1.f5w
 have lr := hR1.lt
 clear hb1 hR1 HC HX HR HAL x0 x1 x2 x3 x4 x5 x6 x7 lx hW0
 dsimp only
 have hmm := @run_makeMap Tryz.prog
 go_upto_region 8 with fail
 clear hmm
 have hB2 : Below w1.heap.size w1 ((w1.alloc (.map #[] 0)).alloc (.cells #[.slice none 0 0, .slice V bs.length cv, .map (some w1.heap.size)] 132)) := ((Below.refl _ _).alloc (Nat.le_refl _) _).alloc (by simp) _
 have hM2 : MemoAt askV okA (goodM x bs) ((w1.alloc (.map #[] 0)).alloc (.cells #[.slice none 0 0, .slice V bs.length cv, .map (some w1.heap.size)] 132)) w1.heap.size := (memo_made w1).stay (((Below.refl _ (w1.alloc (.map #[] 0))).alloc (Nat.le_refl _) _).block _ (by simp))
 have hG2 : Blk ((w1.alloc (.map #[] 0)).alloc (.cells #[.slice none 0 0, .slice V bs.length cv, .map (some w1.heap.size)] 132)) (w1.heap.size + 1) 132 #[.slice none 0 0, .slice V bs.length cv, .map (some w1.heap.size)] := Blk.new_at (by simp)
 have hs2 : ((w1.alloc (.map #[] 0)).alloc (.cells #[.slice none 0 0, .slice V bs.length cv, .map (some w1.heap.size)] 132)).heap.size = w1.heap.size + 2 := by simp
 generalize (w1.alloc (.map #[] 0)).alloc (.cells #[.slice none 0 0, .slice V bs.length cv, .map (some w1.heap.size)] 132) = w2 at *
 have hX2 := HX1.out.below hB2 HX1.out.lt
 have HR2 := Lib.hid (HR1.out.below hB2 HR1.out.lt)
 have HB2 := Lib.hid (HB1.out.trans (hB2.mono (by omega)))
 have hw1 := HB1.out.size
 have hlay := lay11_all x.size x (Nat.le_refl _) B cap w1.heap.size (w1.heap.size + 1) (.slice V bs.length cv) (.map (some w1.heap.size)) (.slice none 0 0) 0 [] w2 ((HT.out.below (HB2.out)).weak (fun b h _ => Nat.lt_of_lt_of_le h hw1)) hcap hG2 (World.ownsRow_nil _ _ _ _) (by omega) (by omega) (by have := HS.out; omega)
 have HL := Lib.hid hlay
 obtain ⟨x0, x1, x2, x3, x4, x5, x6, x7⟩ : _ ∧ _ ∧ _ ∧ _ ∧ _ ∧ _ ∧ _ ∧ _ := ⟨hX2.cell 0, hX2.cell 1, hX2.cell 2, hX2.cell 3, hX2.cell 4, hX2.cell 5, hX2.cell 6, hX2.cell 7⟩
 have lx := hX2.lt
 simp only [List.getElem?_toArray, List.getElem?_cons_zero, List.getElem?_cons_succ, ndA] at x0 x1 x2 x3 x4 x5 x6 x7
 unfold ndV at HL
 have HS2 := Lib.hid hs2
 have HM2 := Lib.hid hM2
 have HW1 := Lib.hid (show w.heap.size ≤ w1.heap.size ∧ w.heap.size + 1 < w1.heap.size from ⟨hw1, lr⟩)
 clear hlay hX2 hB2 hM2 hG2 hs2 r0 r1 r2 r3 r4 f0 f1 f2 f3 f4 HX1 HR1 HB1 hw1 lr
 go_wp2_with fail
 refine HL.out.mono ?_
 rintro _ w3 ⟨rfl, v3, xs, hbx, hrw, hps, hly⟩
 rw [Nat.zero_add] at hrw
 obtain ⟨b, cp, rfl, _, _⟩ := own_form hrw (by unfold Nd.size; omega)
 have hw2 : w2.heap.size = w1.heap.size + 2 := HS2.out
 have h03 : Below w.heap.size w w3 := HB2.out.trans (hly.below.mono HW1.out.1)
 have hk3 : ∀ j, j < w1.heap.size + 1 → w3.heap[j]? = w2.heap[j]? := fun j hj => hly.kept j (by omega) (by omega) (by simp [Value.ownBlock])
 have hmat := mat_made hbx hrw hps ((HV.out.below h03).more HW1.out.1) hl (HM2.out.stay (hk3 _ (by omega))) (TabAt.below h03 hg HTB.out) (by have := HW1.out.1; omega) (by have := HS.out; omega)
 have HMat := Lib.hid hmat
 have H03 := Lib.hid h03
 have HR3 := Lib.hid ((show w3.heap[w.heap.size + 1]? = _ from (hk3 _ (by have := HW1.out.2; omega)).trans HR2.out))
 have HE := Lib.hid (ends_all (x := x) (bs := bs) x.size x (Nat.le_refl _) (by have := HS.out; omega) HO.out w1.heap.size (w1.heap.size + 1) b cp w1.heap.size cv V w3 hmat 0 i0 (root_below x) hi2)
 clear hw2 h03 hk3 hmat hly hps hrw hbx HL HR2 HM2 HS2 HB2 x0 x1 x2 x3 x4 x5 x6 x7 lx
 dsimp only
 go_wp2_with fail
 refine HE.out.mono ?_
 rintro _ w4 ⟨rfl, hm4, hg4⟩
 have hR4 : Blk w4 (w.heap.size + 1) 69 #[.int .u64 0, .int .u64 0, .int .u64 0, .int .u64 0, .int .u64 0] := Blk.grown (show Blk w3 _ _ _ from HR3.out) hg4 (by have := HW1.out.2; simp; omega)
 have H04 := Lib.hid (H03.out.grown hg4 H03.out.size (fun k e => by cases e; exact HW1.out.1))
 have HR4 := Lib.hid hR4
 obtain ⟨r0, r1, r2, r3, r4⟩ := hR4.c5w
 obtain ⟨f0, f1, f2, f3, f4⟩ := hR4.f5w
 have lr := hR4.lt
 clear hm4 hg4 hR4 HE HR3 H03 HMat
 dsimp only
 go_wp2
 refine bodyPost_ret (ret_find Tryz.results56 rfl rfl (HR4.out.put5 (endsB x bs i0))) rfl ⟨by rw [HF.out.1, HF.out.2]; rfl, H04.out.grown (grown5 _ _ _) H04.out.size (fun k e => by cases e; omega)⟩
theorem find_go (x : Nd) (B : Option Addr) (cap : Nat) (V : Option Addr) (cv : Nat) (i : Int) (bs : List Nat) (w : World) (hsz : x.size ≤ 4611686018427387903) (hcap : x.kids.len ≤ cap) (ht : TreesAt w (fun b => b < w.heap.size) x.kids B) (hV : BytesAt w w.heap.size V bs) (hT : TabAt 0 Lib.deBruijn64tab w) (hg : 0 < w.heap.size) : Calls Tryz.prog 56 #[ndV x B cap, .slice V bs.length cv, .int .i64 i] w fun e w' => e = .returned (.tuple #[.agg #[.int .u64 (word (findB x bs i) 0), .int .u64 (word (findB x bs i) 1), .int .u64 (word (findB x bs i) 2), .int .u64 (word (findB x bs i) 3), .int .u64 (word (findB x bs i) 4)], .int .i64 (errF x bs i)]) ∧ Below w.heap.size w w' := by
 rcases hr : rightT x with _ | _
 ·exact find_kind x B cap V cv i bs w hsz hcap ht hV hT hg hr
 rcases Nat.lt_or_ge 256 bs.length with hl | hl
 ·exact find_long x B cap V cv i bs w hsz hcap ht hV hT hg hr hl
 rcases Int.lt_or_le i 0 with hi | hi
 ·exact find_low x B cap V cv i bs w hsz hcap ht hV hT hg hr hl hi
 rcases Int.lt_or_le (bs.length : Int) i with hi2 | hi2
 ·exact find_high x B cap V cv i bs w hsz hcap ht hV hT hg hr hl hi hi2
 ·exact find_yes x B cap V cv i bs w hsz hcap ht hV hT hg hr hl i.toNat (by omega) (by omega)
end Go.Proofs.YtofbfafnpdaejaaGreatDoor
