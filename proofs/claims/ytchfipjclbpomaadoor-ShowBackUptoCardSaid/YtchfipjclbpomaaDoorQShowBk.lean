/-
  The walk of ShowBack: what is shown is read as it was.
-/
import Derived.Test.YtchfipjclbpomaaDoorQShowT
import Derived.Test.YtchfipjclbpomaaDoorQSaidGo
import Derived.Test.YtchfipjclbpomaaDoorQZ04
import Derived.Test.YtchfipjclbpomaaDoorQTSame
import Derived.Test.YtchfipjclbpomaaDoorQZ03
namespace Go.Proofs.YtchfipjclbpomaaDoor
open Go.RowKit
set_option linter.unusedSimpArgs false
set_option linter.unusedVariables false
set_option maxRecDepth 100000

theorem mask_words {p q : Nat → Bool} (h : ∀ i, i < 4 → word p i = word q i) : maskOf p = maskOf q := by
  refine Nat.eq_of_testBit_eq fun j => ?_
  unfold maskOf
  rw [testBit_ofBits, testBit_ofBits]
  by_cases hj : j < 256
  · have h1 := testBit_word p (j / 64) (j % 64)
    have h2 := testBit_word q (j / 64) (j % 64)
    rw [h _ (by omega)] at h1
    rw [h1] at h2
    have e : decide (j % 64 < 64) = true := by simp; omega
    rw [e, Bool.true_and, Bool.true_and, show 64 * (j / 64) + j % 64 = j by omega] at h2
    rw [h2]
  · simp [hj]
theorem keyL_like {x y : Lex} (h : likeW y x) : keyL y = keyL x := by
  unfold keyL
  rw [h.1, mask_words h.2.1, h.2.2.1, h.2.2.2]
theorem showT_kind {x : Nd} {k : Int} (h : showT x = .error k) : k ≠ 0 := by
  unfold showT at h
  split at h
  · rename_i e he
    cases h
    exact lexsS_kind he
  · split at h
    · cases h; decide
    · cases h
theorem lexsS_read {x : Nd} {L : List Lex} (h : lexsS x = .ok L) : ∃ z, lexemesS x.write = .ok z := by
  unfold lexsS at h
  split at h
  · cases h
  · split at h
    · cases h
    · exact ⟨_, by assumption⟩
/-- What is shown is read as it was. -/
theorem parse_show {x : Nd} {t : List Nat} (h : showT x = .ok t) : parseS t = .ok x.said ∧ (∀ y ∈ t, y < 256) ∧ t.length ≤ 65536 ∧ rightT x = true := by
  unfold showT at h
  split at h
  · cases h
  rename_i L hl
  split at h
  · cases h
  rename_i hlen
  cases h
  obtain ⟨hall, _, hr, rfl⟩ := lexsS_form hl
  obtain ⟨z, hz⟩ := lexsS_read hl
  have hR : ∀ y ∈ x.write, rightS y = true := List.all_eq_true.1 hall
  have hjb := joinS_bytes (fun k y hy => hR y (List.mem_of_getElem? hy))
  obtain ⟨M, hM, hMl, hMq⟩ := splitS_back hR hjb (by omega)
  have hMr := (splitS_right hjb hM).1
  have hkey : M.map keyL = x.write.map keyL := by
    refine List.ext_getElem? fun k => ?_
    rw [List.getElem?_map, List.getElem?_map]
    rcases Nat.lt_or_ge k M.length with hk | hk
    · rw [List.getElem?_eq_getElem hk, List.getElem?_eq_getElem (by omega)]
      simp only [Option.map_some, Option.some.injEq]
      exact keyL_like (hMq k _ _ (List.getElem?_eq_getElem hk) (List.getElem?_eq_getElem (by omega)))
    · rw [List.getElem?_eq_none hk, List.getElem?_eq_none (by omega)]
  refine ⟨?_, hjb, by omega, hr⟩
  unfold parseS
  rw [hM]
  have := lexemesS_key hkey (List.all_eq_true.2 fun y hy => by obtain ⟨k, hk, rfl⟩ := List.mem_iff_getElem.1 hy; exact hMr k _ (List.getElem?_eq_getElem hk)) hz
  simp only
  rw [this, read_write hr hz]
theorem size_mk (k : Int) (s : Nat) (l : List Nd) (lo hi : Int) : Nd.size ⟨k, s, Trees.of l, lo, hi⟩ = 1 + (l.map Nd.size).sum := by
  show 1 + (Trees.of l).size = _
  rw [Trees.size_list, Trees.list_of]
theorem size_leaf : Nd.size (leafN 0) = 1 := rfl
theorem saidK_size (k : Int) (s : Nat) (lo hi : Int) (l : List Nd) : (saidK k s lo hi l).size ≤ 1 + (l.map Nd.size).sum := by
  unfold saidK
  split
  · rw [size_leaf]; omega
  · rw [size_mk]; exact Nat.le_refl _
theorem said_sum : ∀ F : Trees, (F.said.map Nd.size).sum ≤ F.size
  | .nil => Nat.le_refl _
  | .cons k s ks lo hi r => by
    have h1 := said_sum ks
    have h2 := said_sum r
    have h3 := saidK_size k s lo hi ks.said
    rw [Trees.said, List.map_cons, List.sum_cons, Trees.size]
    omega
theorem said_size (x : Nd) : x.said.size ≤ x.size := by
  have h1 := said_sum x.kids
  have h2 := saidK_size x.kind x.set x.lo x.hi x.kids.said
  show (saidK x.kind x.set x.lo x.hi x.kids.said).size ≤ 1 + x.kids.size
  omega
set_option maxHeartbeats 8000000 in
theorem back8_go (x : Nd) (B : Option Addr) (cap : Nat) (w : World) (hs : x.size ≤ 140737488355328) (ht : TreesAt w (fun b => b < w.heap.size) x.kids B) (hT : TabAt 0 Lib.deBruijn64tab w) (hw0 : 0 < w.heap.size) :
    Calls Tryd.prog 3 #[ndV x B cap] w fun e w' => e = .returned (.bool true) ∧ Below w.heap.size w w' := by
  have hF : ∀ w', Below w.heap.size w w' → TreesAt w' (fun b => b < w'.heap.size) x.kids B := fun w' hb => (ht.below hb).weak (fun b h _ => Nat.lt_of_lt_of_le h hb.size)
  have H3 := Lib.hid (fun (w1 : World) (hb : Below w.heap.size w w1) => stext_go x B cap w1 (by omega) (hF w1 hb) (TabAt.below hb hw0 hT) (Nat.lt_of_lt_of_le hw0 hb.size))
  have H5 := Lib.hid (fun (w1 : World) (hb : Below w.heap.size w w1) => knows08_go w1 (TabAt.below hb hw0 hT) (Nat.lt_of_lt_of_le hw0 hb.size))
  have HX := Lib.hid (Blk.new w 28 #[.int .i64 x.kind, .int .u64 ((word (x.set.testBit) 0 : Nat) : Int), .int .u64 ((word (x.set.testBit) 1 : Nat) : Int), .int .u64 ((word (x.set.testBit) 2 : Nat) : Int), .int .u64 ((word (x.set.testBit) 3 : Nat) : Int), .slice B x.kids.len cap, .int .i64 x.lo, .int .i64 x.hi])
  have HB := Lib.hid ((Below.refl w.heap.size w).alloc (Nat.le_refl _) (.cells #[.int .i64 x.kind, .int .u64 ((word (x.set.testBit) 0 : Nat) : Int), .int .u64 ((word (x.set.testBit) 1 : Nat) : Int), .int .u64 ((word (x.set.testBit) 2 : Nat) : Int), .int .u64 ((word (x.set.testBit) 3 : Nat) : Int), .slice B x.kids.len cap, .int .i64 x.lo, .int .i64 x.hi] 28))
  have HF := Lib.hid hF
  clear hF ht hT
  have HC := Lib.hid (H3.out _ HB.out)
  unfold ndV at HC ⊢
  go_enter Tryd.func3, Tryd.ntmps3
  go_wp2_with fail
  refine HC.out.mono ?_
  rintro e w1 ⟨rfl, hb1⟩
  have HX1 := Lib.hid (HX.out.below hb1 HX.out.lt)
  have HB1 := Lib.hid (HB.out.trans (hb1.mono HB.out.size))
  clear hb1 HC HX HB H3
  cases hv : showT x with
  | error k =>
    have hkn : (k != 0) = true := by have := showT_kind hv; simpa using this
    have HC := Lib.hid (H5.out _ HB1.out)
    clear hv
    unfold txtV
    dsimp only
    go_wp2_with fail
    refine HC.out.mono ?_
    rintro e w6 ⟨rfl, hb6⟩
    have HB6 := Lib.hid (HB1.out.trans (hb6.mono HB1.out.size))
    clear hb6
    dsimp only
    go_wp2
    go_light
    go_ret
    exact ⟨rfl, HB6.out⟩
  | ok t =>
    obtain ⟨hp, htb, htl, hr⟩ := parse_show hv
    obtain ⟨C, W2, hconv, hbt, hbel, hC⟩ := conv_text w1 t htb (by omega)
    have hpt := text_go07 (some ⟨w1.heap.size, 0, none⟩) C t W2 hbt hC
    rw [hp] at hpt
    have HP := Lib.hid hpt
    have HX2 := Lib.hid (HX1.out.below hbel HX1.out.lt)
    have HB2 := Lib.hid (HB1.out.trans (hbel.mono HB1.out.size))
    have hxs : x.size ≤ 4096 := rightT_size hr
    have hys := said_size x
    clear hp htb htl hr hbt hbel hC hpt HX1 HB1 hv
    unfold txtV
    dsimp only
    go_wp2_with fail
    clear hconv
    refine HP.out.mono ?_
    rintro e w4 ⟨B4, cap4, rfl, hb4, hc4, ht4⟩
    have hb5 : Below w4.heap.size w4 ((w4.alloc (.cells (ndA x.said B4 cap4) 28)).alloc (.cells #[.int .i64 0, .int .i64 0] 34)) := ((Below.refl _ _).alloc (Nat.le_refl _) _).alloc (by simp) _
    have HB5 := Lib.hid ((HB2.out.trans (hb4.mono HB2.out.size)).trans (hb5.mono (by have := HB2.out.size; have := hb4.size; omega)))
    have hX4 := HX2.out.below hb4 HX2.out.lt
    have hX5 := hX4.below hb5 hX4.lt
    have hY5 : Blk ((w4.alloc (.cells (ndA x.said B4 cap4) 28)).alloc (.cells #[.int .i64 0, .int .i64 0] 34)) w4.heap.size 28 (ndA x.said B4 cap4) := (Blk.new w4 _ _).alloc _
    have hZ5 : Blk ((w4.alloc (.cells (ndA x.said B4 cap4) 28)).alloc (.cells #[.int .i64 0, .int .i64 0] 34)) (w4.heap.size + 1) 34 #[.int .i64 0, .int .i64 0] := Blk.new_at (by simp)
    have ht5 := (ht4.below hb5).weak (Q := fun b => b < ((w4.alloc (.cells (ndA x.said B4 cap4) 28)).alloc (.cells #[.int .i64 0, .int .i64 0] 34)).heap.size) (fun b _ h => h)
    have HS := Lib.hid (fun (w' : World) (hb : Below w.heap.size w w') => said_go x _ B cap w' (by omega) (HF.out w' hb))
    clear hb4 ht4 hX4 HX2 HB2 HP hb5
    generalize x.said = y at *
    unfold ndV at HS ⊢
    unfold ndA at *
    dsimp only
    go_upto_region 5 with fail
    generalize (w4.alloc (.cells #[.int .i64 y.kind, .int .u64 ((word (y.set.testBit) 0 : Nat) : Int), .int .u64 ((word (y.set.testBit) 1 : Nat) : Int), .int .u64 ((word (y.set.testBit) 2 : Nat) : Int), .int .u64 ((word (y.set.testBit) 3 : Nat) : Int), .slice B4 y.kids.len cap4, .int .i64 y.lo, .int .i64 y.hi] 28)).alloc (.cells #[.int .i64 0, .int .i64 0] 34) = w5 at *
    have n0 := (hX5).cell 0
    have n1 := (hX5).cell 1
    have n2 := (hX5).cell 2
    have n3 := (hX5).cell 3
    have n4 := (hX5).cell 4
    have n5 := (hX5).cell 5
    have n6 := (hX5).cell 6
    have n7 := (hX5).cell 7
    have hlx := (hX5).lt
    simp only [List.getElem?_toArray, List.getElem?_cons_zero, List.getElem?_cons_succ] at n0 n1 n2 n3 n4 n5 n6 n7
    have y0 := (hY5).cell 0
    have y1 := (hY5).cell 1
    have y2 := (hY5).cell 2
    have y3 := (hY5).cell 3
    have y4 := (hY5).cell 4
    have y5 := (hY5).cell 5
    have y6 := (hY5).cell 6
    have y7 := (hY5).cell 7
    have hly := (hY5).lt
    simp only [List.getElem?_toArray, List.getElem?_cons_zero, List.getElem?_cons_succ] at y0 y1 y2 y3 y4 y5 y6 y7
    have z0 := hZ5.cell 0
    have hlz := hZ5.lt
    simp only [List.getElem?_toArray, List.getElem?_cons_zero] at z0
    have HSB := Lib.hid (fun (w' : World) (h : (∀ b o, b < w5.heap.size → w'.cell? ⟨b, o, none⟩ = w5.cell? ⟨b, o, none⟩) ∧ Since w5.heap.size w5 w') => HS.out w' (HB5.out.trans (h.2.1.mono HB5.out.size)))
    have HE := Lib.hid (fun (w' : World) (h : (∀ b o, b < w5.heap.size → w'.cell? ⟨b, o, none⟩ = w5.cell? ⟨b, o, none⟩) ∧ Since w5.heap.size w5 w') (P' : Nat → Prop) (B' : Option Addr) (cap' : Nat) (ht' : TreesAt w' P' y.kids B') => tsame_go y _ P' B4 B' cap4 cap' w' (by omega) (ht5.below h.2.1) ht')
    have HK := Lib.hid (fun (w' : World) (h : (∀ b o, b < w5.heap.size → w'.cell? ⟨b, o, none⟩ = w5.cell? ⟨b, o, none⟩) ∧ Since w5.heap.size w5 w') => H5.out w' (HB5.out.trans (h.2.1.mono HB5.out.size)))
    unfold ndV at HE
    clear hX5 hY5 hZ5 ht5 H5 HS HF hys hxs hc4
    go_region_held3 (fun w' => (∀ b o, b < w5.heap.size → w'.cell? ⟨b, o, none⟩ = w5.cell? ⟨b, o, none⟩) ∧ Since w5.heap.size w5 w') (first | exact since_start (Nat.le_refl _) | exact since_step (by assumption) (by assumption))
      (first | (go_at_call 10; refine (HSB.out _ (by assumption)).mono ?_; rintro e w' ⟨B', cap', rfl, hb', hc', ht'⟩) | (go_at_call 9; refine (HE.out _ (by assumption) _ _ _ (by assumption)).mono ?_; rintro e w' ⟨rfl, hb'⟩) | (go_at_call 7; refine (HK.out _ (by assumption)).mono ?_; rintro e w' ⟨rfl, hb'⟩))
    all_goals
      rename_i hS9
      have HB9 := Lib.hid (HB5.out.trans (hS9.2.1.mono HB5.out.size))
      clear hS9
      go_wp2
      go_light
      go_ret
      exact ⟨rfl, HB9.out⟩
end Go.Proofs.YtchfipjclbpomaaDoor
