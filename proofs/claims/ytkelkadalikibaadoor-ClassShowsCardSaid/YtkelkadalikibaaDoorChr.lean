/-
  The contracts of quote.Quote at one byte, of class.Char and of its reference.
-/
import Derived.Test.YtkelkadalikibaaDoorStr
import Derived.OneCell
import Derived.Deep.AppendLies
namespace Go.Proofs.YtkelkadalikibaaDoor
open Go.RowKit
set_option linter.unusedSimpArgs false
set_option linter.unusedVariables false
set_option maxRecDepth 100000

@[go_sem] theorem run_str2_92 (w : World) (c : Nat) : (convert 22 9 (.slice (some ⟨w.heap.size, 0, none⟩) 2 2)).run Tryd.prog (w.alloc (.cells #[.int .u8 92, .int .u8 (c : Int)] 5)) =
    .ok (.string (strOf [92, c])) (w.alloc (.cells #[.int .u8 92, .int .u8 (c : Int)] 5)) :=
  run_str _ ⟨w.heap.size, 0, none⟩ 2 [92, c] (fun j u hu => by
    have hb := Blk.new w 5 #[.int .u8 92, .int .u8 (c : Int)]
    match j, hu with
    | 0, hu => simp at hu; subst hu; exact hb.cell 0
    | 1, hu => simp at hu; subst hu; exact hb.cell 1
    | j + 2, hu => simp at hu)

theorem u8_info : (Tryd.prog.info? 5).map (fun i => (i.zero, i.size, i.bytes)) = some (some (.int .u8 0), 1, 1) := by kernel_rfl

theorem own_form {w : World} {base size n : Nat} {e : TypeId} {v : Value} {xs : List Value} (h : w.ownsRow base e size v n xs) (hn : 0 < n) : ∃ g cap, v = .slice (some ⟨g, 0, none⟩) n cap ∧ base ≤ g ∧ g < w.heap.size := by
  rcases h.2 with ⟨_, h0⟩ | ⟨g, cap, cur, hv, hb, hh, _⟩
  · omega
  · exact ⟨g, cap, hv, hb, lt_of_block hh⟩
theorem own_below {w w' : World} {base size n : Nat} {e : TypeId} {v : Value} {xs : List Value} (h : w.ownsRow base e size v n xs) (hb : Below w.heap.size w w') : w'.ownsRow base e size v n xs :=
  h.kept (row := none) ⟨hb.os, hb.tape, hb.output, hb.size, fun k hk _ => hb.block k hk⟩ (by cases hv : v.ownBlock; exact .inl rfl; exact .inr (by simp))
theorem below_grown {B : Nat} {a w w' : World} {v : Value} {base size n : Nat} {e : TypeId} {xs : List Value} (h : Below B a w) (hg : w.grownBy w' v.ownBlock) (hown : w.ownsRow base e size v n xs) (hB : B ≤ base) (hs : B ≤ w.heap.size) : Below B a w' :=
  h.grown hg hs (fun k hk => Nat.le_trans hB (hown.lt k hk).1)

theorem own_str1 {w : World} {base : Nat} {v : Value} {a : Nat} (h : w.ownsRow base 5 1 v (0 + 1) ([] ++ [.int .u8 (a : Int)])) :
    ∃ g cap, v = .slice (some ⟨g, 0, none⟩) 1 cap ∧ (convert 22 9 (.slice (some ⟨g, 0, none⟩) 1 cap)).run Tryd.prog w = .ok (.string (strOf [a])) w := by
  obtain ⟨g, cap, hv, _, _⟩ := own_form h (by decide)
  exact ⟨g, cap, hv, run_str w ⟨g, 0, none⟩ cap [a] (h.cells (g := g) (by rw [hv]; rfl))⟩
theorem own_str4 {w : World} {base : Nat} {v : Value} {a b c d : Nat} (h : w.ownsRow base 5 1 v (0 + 4) ([] ++ [.int .u8 (a : Int), .int .u8 (b : Int), .int .u8 (c : Int), .int .u8 (d : Int)])) :
    ∃ g cap, v = .slice (some ⟨g, 0, none⟩) 4 cap ∧ (convert 22 9 (.slice (some ⟨g, 0, none⟩) 4 cap)).run Tryd.prog w = .ok (.string (strOf [a, b, c, d])) w := by
  obtain ⟨g, cap, hv, _, _⟩ := own_form h (by decide)
  exact ⟨g, cap, hv, run_str w ⟨g, 0, none⟩ cap [a, b, c, d] (h.cells (g := g) (by rw [hv]; rfl))⟩
theorem own_str {w : World} {base : Nat} {v : Value} {ns : List Nat} (h : w.ownsRow base 5 1 v ns.length (ns.map (fun n : Nat => Value.int .u8 (n : Int)))) (hn : 0 < ns.length) :
    ∃ g cap, v = .slice (some ⟨g, 0, none⟩) ns.length cap ∧ (convert 22 9 v).run Tryd.prog w = .ok (.string (strOf ns)) w := by
  obtain ⟨g, cap, hv, _, _⟩ := own_form h hn
  exact ⟨g, cap, hv, by rw [hv]; exact run_str w ⟨g, 0, none⟩ cap ns (h.cells (g := g) (by rw [hv]; rfl))⟩

set_option maxHeartbeats 1000000 in
theorem quote1_plain (b o : Nat) (c : Nat) (w : World) (hc : w.cell? ⟨b, o, none⟩ = some (.int .u8 (c : Int))) (hn : c < 256) (hp : isPlain c = true) :
    Calls Tryd.prog 43 #[.slice (some ⟨b, o, none⟩) 1 1] w fun e w' => e = .returned (.string (strOf (oneS c))) ∧ Below w.heap.size w w' := by
  have HV : Hid (oneS c = [c]) := by show oneS c = _; unfold oneS; rw [hp]; rfl
  rw [HV.out]
  obtain ⟨i0, hi, hz0, hz1, hz2⟩ := info_parts u8_info
  have hbl := World.block_lt_of_cell? w _ hc
  have hmk : ∀ w, (Instr.makeSlice 22 (.int .i64 0) (.int .i64 1)).run Tryd.prog w = .ok (.slice (some ⟨w.heap.size, 0, none⟩) 0 1) (w.alloc (.cells #[.int .u8 0] 5)) := fun _ => by kernel_rfl
  have hown0 : Hid ((w.alloc (.cells #[.int .u8 0] 5)).ownsRow w.heap.size 5 1 (.slice (some ⟨w.heap.size, 0, none⟩) 0 1) 0 []) := World.ownsRow_made w #[.int .u8 0] 1 (Nat.le_refl _) (by decide) rfl
  go_enter Tryd.func43, Tryd.ntmps43
  go_wp2
  refine wp_loop_rounds 2 ?_
  rw [rounds_succ]
  go_wp2_with fail
  refine (plain_go _ _ (by omega) (by omega)).mono ?_
  rintro e w1 ⟨rfl, hb1⟩
  have hb1' : Hid (Below w.heap.size w w1) := ((Below.refl w.heap.size w).alloc (Nat.le_refl _) _).trans (hb1.mono (by simp))
  have hown1 := Lib.hid (own_below hown0.out hb1)
  have hz1' : w.heap.size ≤ w1.heap.size := hb1'.out.size
  go_wp2_with (at_builtin; refine wpList_append_own _ rfl (.tmp 20) (.tmp 22) _ rfl w.heap.size 5 i0 (.int .u8 0) 1 1 Tryd.underlying22 hi hz0 hz1 hz2 rfl (by decide) _ _ _ rfl (hown1.out.alloc _) ⟨w1.heap.size, 0, none⟩ 1 1 [.int .u8 (c : Int)] rfl rfl (cell_one_new _ _ _) (by simp [Value.oneCell']) (by decide) (by decide) (by simp; omega) ?_; intro v' w2 hown2 hg2 _; obtain ⟨g', cap', rfl, hs⟩ := own_str1 hown2)
  rw [rounds_succ]
  go_wp2
  go_light
  go_ret
  exact ⟨rfl, below_grown ((hb1'.out).alloc hz1' _) hg2 (hown1.out.alloc _) (Nat.le_refl _) (by simp; omega)⟩

set_option maxHeartbeats 1000000 in
theorem quote1_hex (b o : Nat) (c : Nat) (w : World) (hc : w.cell? ⟨b, o, none⟩ = some (.int .u8 (c : Int))) (hn : c < 256) (hp : isPlain c = false) :
    Calls Tryd.prog 43 #[.slice (some ⟨b, o, none⟩) 1 1] w fun e w' => e = .returned (.string (strOf (oneS c))) ∧ Below w.heap.size w w' := by
  have HV : Hid (oneS c = [92, 120, hexd (c / 16), hexd (c % 16)]) := by show oneS c = _; unfold oneS; rw [hp]; rfl
  rw [HV.out]
  obtain ⟨i0, hi, hz0, hz1, hz2⟩ := info_parts u8_info
  have hbl := World.block_lt_of_cell? w _ hc
  have hmk : ∀ w, (Instr.makeSlice 22 (.int .i64 0) (.int .i64 1)).run Tryd.prog w = .ok (.slice (some ⟨w.heap.size, 0, none⟩) 0 1) (w.alloc (.cells #[.int .u8 0] 5)) := fun _ => by kernel_rfl
  have hown0 : Hid ((w.alloc (.cells #[.int .u8 0] 5)).ownsRow w.heap.size 5 1 (.slice (some ⟨w.heap.size, 0, none⟩) 0 1) 0 []) := World.ownsRow_made w #[.int .u8 0] 1 (Nat.le_refl _) (by decide) rfl
  go_enter Tryd.func43, Tryd.ntmps43
  go_wp2
  refine wp_loop_rounds 2 ?_
  rw [rounds_succ]
  go_wp2_with fail
  refine (plain_go _ _ (by omega) (by omega)).mono ?_
  rintro e w1 ⟨rfl, hb1⟩
  have hb1' : Hid (Below w.heap.size w w1) := ((Below.refl w.heap.size w).alloc (Nat.le_refl _) _).trans (hb1.mono (by simp))
  have hown1 := Lib.hid (own_below hown0.out hb1)
  have hz1' : w.heap.size ≤ w1.heap.size := hb1'.out.size
  go_wp2_with fail
  refine (digit_go _ _ (by omega) (by omega)).mono ?_
  rintro e w2 ⟨rfl, rfl⟩
  go_wp2_with fail
  refine (digit_go _ _ (by omega) (by omega)).mono ?_
  rintro e w2 ⟨rfl, rfl⟩
  go_wp2_with (at_builtin; refine wpList_append_own _ rfl (.tmp 24) (.tmp 33) _ rfl w.heap.size 5 i0 (.int .u8 0) 1 1 Tryd.underlying22 hi hz0 hz1 hz2 rfl (by decide) _ _ _ rfl (hown1.out.alloc _) ⟨w1.heap.size, 0, none⟩ 4 4 [.int .u8 92, .int .u8 120, .int .u8 ((hexd (c / 16) : Nat) : Int), .int .u8 ((hexd (c % 16) : Nat) : Int)] rfl rfl (World.news_of_block (cs := #[.int .u8 92, .int .u8 120, .int .u8 ((hexd (c / 16) : Nat) : Int), .int .u8 ((hexd (c % 16) : Nat) : Int)]) (t := 5) (fr := (0, 0)) (heap_alloc_new w1 _)) (by simp [Value.oneCell']) (by decide) (by decide) (by simp; omega) ?_; intro v' w2 hown2 hg2 _; obtain ⟨g', cap', rfl, hs⟩ := own_str4 (a := 92) (b := 120) hown2)
  rw [rounds_succ]
  go_wp2
  go_light
  go_ret
  exact ⟨rfl, below_grown ((hb1'.out).alloc hz1' _) hg2 (hown1.out.alloc _) (Nat.le_refl _) (by simp; omega)⟩

theorem quote1_go (b o : Nat) (c : Nat) (w : World) (hc : w.cell? ⟨b, o, none⟩ = some (.int .u8 (c : Int))) (hn : c < 256) :
    Calls Tryd.prog 43 #[.slice (some ⟨b, o, none⟩) 1 1] w fun e w' => e = .returned (.string (strOf (oneS c))) ∧ Below w.heap.size w w' := by
  cases hp : isPlain c
  · exact quote1_hex b o c w hc hn hp
  · exact quote1_plain b o c w hc hn hp

theorem chr_go (c : Int) (w : World) (h0 : 0 ≤ c) (h1 : c < 256) :
    Calls Tryd.prog 14 #[.int .u8 c] w fun e w' => e = .returned (.string (strOf (chrS c.toNat))) ∧ Below w.heap.size w w' := by
  obtain ⟨n, rfl⟩ := Int.eq_ofNat_of_zero_le h0
  rw [Int.toNat_natCast]
  have hn : n < 256 := by omega
  by_cases e1 : n = 10
  · subst e1
    go_enter Tryd.func14, Tryd.ntmps14
    go_wp2
    go_light
    go_ret
    exact ⟨rfl, Below.refl _ _⟩
  by_cases e2 : n = 9
  · subst e2
    go_enter Tryd.func14, Tryd.ntmps14
    go_wp2
    go_light
    go_ret
    exact ⟨rfl, Below.refl _ _⟩
  by_cases e3 : n = 13
  · subst e3
    go_enter Tryd.func14, Tryd.ntmps14
    go_wp2
    go_light
    go_ret
    exact ⟨rfl, Below.refl _ _⟩
  have b1 : ((n : Int) == 10) = false := by simp; omega
  have b2 : ((n : Int) == 9) = false := by simp; omega
  have b3 : ((n : Int) == 13) = false := by simp; omega
  cases hs : isSpecial n
  · have HV : Hid (chrS n = oneS n) := by show chrS n = _; unfold chrS; rw [if_neg e1, if_neg e2, if_neg e3, hs]; rfl
    rw [HV.out]
    clear e1 e2 e3
    go_enter Tryd.func14, Tryd.ntmps14
    go_wp2_with (first
      | (go_at_call 42; refine (special_go _ _ (by omega) (by omega)).mono ?_; rintro e w2 ⟨rfl, rfl⟩)
      | (go_at_call 43; refine (quote1_go w.heap.size 0 n _ ((Blk.new w 5 #[.int .u8 (n : Int)]).cell 0) hn).mono ?_; rintro e w2 ⟨rfl, hb2⟩))
    go_light
    go_ret
    exact ⟨rfl, ((Below.refl w.heap.size w).alloc (Nat.le_refl _) _).trans (hb2.mono (by simp))⟩
  · have HV : Hid (chrS n = [92, n]) := by show chrS n = _; unfold chrS; rw [if_neg e1, if_neg e2, if_neg e3, hs]; rfl
    rw [HV.out]
    clear e1 e2 e3
    go_enter Tryd.func14, Tryd.ntmps14
    go_wp2_with (go_at_call 42; refine (special_go _ _ (by omega) (by omega)).mono ?_; rintro e w2 ⟨rfl, rfl⟩)
    go_light
    go_ret
    exact ⟨rfl, (Below.refl w.heap.size w).alloc (Nat.le_refl _) _⟩

theorem rchr_go (c : Int) (w : World) (h0 : 0 ≤ c) (h1 : c < 256) :
    Calls Tryd.prog 15 #[.int .u8 c] w fun e w' => e = .returned (.string (strOf (chrS c.toNat))) ∧ Below w.heap.size w w' := by
  obtain ⟨n, rfl⟩ := Int.eq_ofNat_of_zero_le h0
  rw [Int.toNat_natCast]
  have hn : n < 256 := by omega
  by_cases e10 : n = 10
  · subst e10
    go_enter Tryd.func15, Tryd.ntmps15
    go_wp2
    go_light
    go_ret
    exact ⟨rfl, Below.refl _ _⟩
  by_cases e9 : n = 9
  · subst e9
    go_enter Tryd.func15, Tryd.ntmps15
    go_wp2
    go_light
    go_ret
    exact ⟨rfl, Below.refl _ _⟩
  by_cases e13 : n = 13
  · subst e13
    go_enter Tryd.func15, Tryd.ntmps15
    go_wp2
    go_light
    go_ret
    exact ⟨rfl, Below.refl _ _⟩
  have b1 : ((n : Int) == 10) = false := by simp; omega
  have b2 : ((n : Int) == 9) = false := by simp; omega
  have b3 : ((n : Int) == 13) = false := by simp; omega
  cases hs : isSpecial n
  · have HV : Hid (chrS n = oneS n) := by show chrS n = _; unfold chrS; rw [if_neg e10, if_neg e9, if_neg e13, hs]; rfl
    rw [HV.out]
    clear e10 e9 e13
    go_enter Tryd.func15, Tryd.ntmps15
    go_wp2_with (first
      | (go_at_call 44; refine (rspecial_go _ _ (by omega) (by omega)).mono ?_; rintro e w2 ⟨rfl, rfl⟩)
      | (go_at_call 45; refine (one_go _ _ (by omega) (by omega)).mono ?_; rintro e w2 ⟨rfl, hb2⟩))
    go_light
    go_ret
    exact ⟨rfl, hb2⟩
  · have HV : Hid (chrS n = [92, n]) := by show chrS n = _; unfold chrS; rw [if_neg e10, if_neg e9, if_neg e13, hs]; rfl
    rw [HV.out]
    clear e10 e9 e13
    go_enter Tryd.func15, Tryd.ntmps15
    go_wp2_with (go_at_call 44; refine (rspecial_go _ _ (by omega) (by omega)).mono ?_; rintro e w2 ⟨rfl, rfl⟩)
    go_light
    go_ret
    exact ⟨rfl, (Below.refl w.heap.size w).alloc (Nat.le_refl _) _⟩

end Go.Proofs.YtkelkadalikibaaDoor
