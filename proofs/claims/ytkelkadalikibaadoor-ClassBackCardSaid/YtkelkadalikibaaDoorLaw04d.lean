/-
  The walk of ClassBack: a set is read from its text, whatever stands behind; a byte from its char between brackets.
-/
import Derived.Test.YtkelkadalikibaaDoorLaw04b
import Derived.Test.YtkelkadalikibaaDoorJoin
namespace Go.Proofs.YtkelkadalikibaaDoor
open Go.RowKit Go.Shelf
set_option linter.unusedSimpArgs false
set_option linter.unusedVariables false
set_option maxRecDepth 100000

theorem word_same {p q : Nat → Bool} (h : ∀ c, c < 256 → p c = q c) (i : Nat) (hi : i < 4) : word p i = word q i := word_congr (fun j hj => h (64 * i + j) (by omega))
theorem showS_bytes (p : Nat → Bool) : ∀ x ∈ showS p, x < 256 := by
  have hp : ∀ l : List (Nat × Nat), (∀ x ∈ l, x.1 ≤ x.2 ∧ x.2 < 256) → ∀ y ∈ piecesS l, y < 256 := by
    intro l
    induction l with
    | nil => intro _ y hy; simp [piecesS] at hy
    | cons x l ih =>
      intro hl y hy
      have hx := hl x (by simp)
      rw [piecesS_cons] at hy
      rcases List.mem_append.1 hy with hy | hy
      · unfold pieceS at hy
        rcases List.mem_append.1 hy with hy | hy
        · exact (chr_head x.1 (by omega)).2.2.2.2 y hy
        · rcases List.mem_append.1 hy with hy | hy
          · split at hy
            · simp at hy; omega
            · simp at hy
          · split at hy
            · exact (chr_head x.2 hx.2).2.2.2.2 y hy
            · simp at hy
      · exact ih (fun z hz => hl z (by simp [hz])) y hy
  intro x hx
  unfold showS at hx
  split at hx
  · simp only [List.mem_append, List.mem_cons, List.not_mem_nil, or_false] at hx
    rcases hx with (h | h) | h | h
    · omega
    · omega
    · exact hp _ (cutsOf_in _) x h
    · omega
  · simp only [List.mem_append, List.mem_cons, List.not_mem_nil, or_false] at hx
    rcases hx with h | h | h
    · omega
    · exact hp _ (cutsOf_in _) x h
    · omega
theorem val_back (p : Nat → Bool) (bs : List Nat) : classVal (readS (showS p ++ bs) 0) = .tuple #[.agg #[.int .u64 ((word (p) 0 : Nat) : Int), .int .u64 ((word (p) 1 : Nat) : Int), .int .u64 ((word (p) 2 : Nat) : Int), .int .u64 ((word (p) 3 : Nat) : Int)], .int .i64 (((showS p).length : Nat) : Int), .agg #[.int .i64 0, .int .i64 0]] := by
  obtain ⟨p', h, hp⟩ := read_show p bs
  rw [h]
  unfold classVal
  dsimp only
  rw [word_same hp 0 (by decide), word_same hp 1 (by decide), word_same hp 2 (by decide), word_same hp 3 (by decide)]
theorem val_chr (c : Nat) (hc : c < 256) : classVal (readS ([91] ++ (chrS c ++ [93])) 0) = .tuple #[.agg #[.int .u64 ((word (among [c] 1) 0 : Nat) : Int), .int .u64 ((word (among [c] 1) 1 : Nat) : Int), .int .u64 ((word (among [c] 1) 2 : Nat) : Int), .int .u64 ((word (among [c] 1) 3 : Nat) : Int)], .int .i64 (((chrS c).length : Nat) + 2 : Int), .agg #[.int .i64 0, .int .i64 0]] := by
  obtain ⟨p', h, hp⟩ := read_chr c hc
  have hp2 : ∀ k, k < 256 → p' k = among [c] 1 k := fun k hk => by rw [hp k hk, among_one]
  rw [h]
  unfold classVal
  dsimp only
  rw [word_same hp2 0 (by decide), word_same hp2 1 (by decide), word_same hp2 2 (by decide), word_same hp2 3 (by decide)]
  rfl

theorem of_one (c : Nat) (hc : c < 256) (w : World) (n : Nat) (hn : n = w.heap.size) :
    Calls Tryd.prog 16 #[.slice (some ⟨n, 0, none⟩) 1 1] (w.alloc (.cells #[.int .u8 (c : Int)] 5)).drew fun e w' => e = .returned (.agg #[.int .u64 ((word (among [c] 1) 0 : Nat) : Int), .int .u64 ((word (among [c] 1) 1 : Nat) : Int), .int .u64 ((word (among [c] 1) 2 : Nat) : Int), .int .u64 ((word (among [c] 1) 3 : Nat) : Int)]) ∧ Below (w.alloc (.cells #[.int .u8 (c : Int)] 5)).drew.heap.size (w.alloc (.cells #[.int .u8 (c : Int)] 5)).drew w' :=
  of_any _ [c] 1 _ ((bytes_new w n [c] _ _ hn rfl (by simp; omega) (by simp)).drew)

set_option maxHeartbeats 4000000 in
theorem back_go (p : Nat → Bool) (c : Nat) (A : Option Addr) (cap : Nat) (bs : List Nat) (w : World) (hc : c < 256) (hA : BytesAt w w.heap.size A bs) (hl : bs.length ≤ 140737488351232) (hT : TabAt 0 Lib.deBruijn64tab w) (hw0 : 0 < w.heap.size) :
    Calls Tryd.prog 5 #[.agg #[.int .u64 ((word (p) 0 : Nat) : Int), .int .u64 ((word (p) 1 : Nat) : Int), .int .u64 ((word (p) 2 : Nat) : Int), .int .u64 ((word (p) 3 : Nat) : Int)], .int .u8 (c : Int), .slice A bs.length cap] w fun e W' => e = .returned (.bool true) ∧ Below w.heap.size w W' := by
  have HT := Lib.hid hT
  have HA := Lib.hid hA
  have hsl := showS_len p
  have hcl := chrS_len c
  have HV1 := Lib.hid (val_back p bs)
  have HV2 := Lib.hid (val_chr c hc)
  clear hT hA
  go_enter Tryd.func5, Tryd.ntmps5
  go_wp2_with fail
  have HB0 := Lib.hid ((Below.refl w.heap.size w).alloc (Nat.le_refl _) (.cells #[.int .u64 ((word (p) 0 : Nat) : Int), .int .u64 ((word (p) 1 : Nat) : Int), .int .u64 ((word (p) 2 : Nat) : Int), .int .u64 ((word (p) 3 : Nat) : Int)] 25))
  refine (show_go p _ (TabAt.below HB0.out hw0 HT.out) (by simp)).mono ?_
  rintro e w1 ⟨rfl, hb1⟩
  have hs1 : Blk w1 w.heap.size 25 #[.int .u64 ((word (p) 0 : Nat) : Int), .int .u64 ((word (p) 1 : Nat) : Int), .int .u64 ((word (p) 2 : Nat) : Int), .int .u64 ((word (p) 3 : Nat) : Int)] := (Blk.new w 25 #[.int .u64 ((word (p) 0 : Nat) : Int), .int .u64 ((word (p) 1 : Nat) : Int), .int .u64 ((word (p) 2 : Nat) : Int), .int .u64 ((word (p) 3 : Nat) : Int)]).below hb1 (by simp)
  have HB1 := Lib.hid (HB0.out.trans (hb1.mono HB0.out.size))
  have Hs1 := Lib.hid hs1
  clear hb1 hs1
  obtain ⟨C, w2, A2, cap2, w3, k1, k2, hA3, hb3⟩ := append_text w1 (showS p) (showS_bytes p) w.heap.size A cap bs (HA.out.below HB1.out) HB1.out.size (by omega)
  generalize hL : showS p ++ bs = L at *
  obtain ⟨n, hn⟩ : ∃ n, n = L.length := ⟨_, rfl⟩
  rw [← hn] at k2
  have Hr := Lib.hid (fun W hW => read_go A2 cap2 L 0 W hW)
  have Hn := Lib.hid hn
  have HL := Lib.hid hL
  have HA3 := Lib.hid hA3
  have HB3 := Lib.hid (HB1.out.trans (hb3.mono HB1.out.size))
  have Hs3 := Lib.hid (Hs1.out.below hb3 Hs1.out.lt)
  clear hn hL hA3 hb3
  have K2 := Lib.hid k2
  clear k2
  go_wp2_with (at_builtin; refine wpList_append_by rfl _ _ _ _ rfl _ _ _ _ rfl rfl (K2.out _) ?_)
  rw [Hn.out]
  refine (Hr.out _ HA3.out).mono ?_
  rintro e w4 ⟨rfl, hb4⟩
  rw [HV1.out]
  have HB4 := Lib.hid (HB3.out.trans (hb4.mono HB3.out.size))
  have Hs4 := Lib.hid (Hs3.out.below hb4 Hs3.out.lt)
  clear hb4 k1
  have hz4 := HB4.out.size
  go_wp2_with fail
  have HX := Lib.hid ((HB4.out.alloc hz4 (.cells #[.int .u64 ((word (p) 0 : Nat) : Int), .int .u64 ((word (p) 1 : Nat) : Int), .int .u64 ((word (p) 2 : Nat) : Int), .int .u64 ((word (p) 3 : Nat) : Int)] 25)).alloc (by simp; omega) (.cells #[.int .i64 0, .int .i64 0] 28))
  have hs5 := (Hs4.out.alloc (.cells #[.int .u64 ((word (p) 0 : Nat) : Int), .int .u64 ((word (p) 1 : Nat) : Int), .int .u64 ((word (p) 2 : Nat) : Int), .int .u64 ((word (p) 3 : Nat) : Int)] 25)).alloc (.cells #[.int .i64 0, .int .i64 0] 28)
  have hx5 : Blk ((w4.alloc (.cells #[.int .u64 ((word (p) 0 : Nat) : Int), .int .u64 ((word (p) 1 : Nat) : Int), .int .u64 ((word (p) 2 : Nat) : Int), .int .u64 ((word (p) 3 : Nat) : Int)] 25)).alloc (.cells #[.int .i64 0, .int .i64 0] 28)) w4.heap.size 25 #[.int .u64 ((word (p) 0 : Nat) : Int), .int .u64 ((word (p) 1 : Nat) : Int), .int .u64 ((word (p) 2 : Nat) : Int), .int .u64 ((word (p) 3 : Nat) : Int)] := (Blk.new _ _ _).alloc _
  have he5 : Blk ((w4.alloc (.cells #[.int .u64 ((word (p) 0 : Nat) : Int), .int .u64 ((word (p) 1 : Nat) : Int), .int .u64 ((word (p) 2 : Nat) : Int), .int .u64 ((word (p) 3 : Nat) : Int)] 25)).alloc (.cells #[.int .i64 0, .int .i64 0] 28)) (w4.heap.size + 1) 28 #[.int .i64 0, .int .i64 0] := Blk.new_at (by simp)
  generalize (w4.alloc (.cells #[.int .u64 ((word (p) 0 : Nat) : Int), .int .u64 ((word (p) 1 : Nat) : Int), .int .u64 ((word (p) 2 : Nat) : Int), .int .u64 ((word (p) 3 : Nat) : Int)] 25)).alloc (.cells #[.int .i64 0, .int .i64 0] 28) = wx at *
  refine (chr_go _ _ (by omega) (by omega)).mono ?_
  rintro e w5 ⟨rfl, hb5⟩
  rw [Int.toNat_natCast]
  have hs6 := hs5.below hb5 hs5.lt
  have hx6 := hx5.below hb5 hx5.lt
  have he6 := he5.below hb5 he5.lt
  have HX5 := Lib.hid (HX.out.trans (hb5.mono HX.out.size))
  clear hb5 hs5 hx5 he5
  have hcs : ∀ x ∈ [91] ++ (chrS c ++ [93]), x < 256 := by
    intro x hx
    simp only [List.mem_append, List.mem_cons, List.not_mem_nil, or_false] at hx
    rcases hx with h | h | h
    · omega
    · exact (chr_head c hc).2.2.2.2 x h
    · omega
  obtain ⟨C3, w6, k3, hA6, hb6⟩ := conv_text w5 ([91] ++ (chrS c ++ [93])) hcs (by simp; omega)
  have e3 : strOf ([91] ++ (chrS c ++ [93])) = ((⟨#[91]⟩ : ByteArray) ++ strOf (chrS c)) ++ ⟨#[93]⟩ := by
    rw [show (⟨#[91]⟩ : ByteArray) = strOf [91] from rfl, show (⟨#[93]⟩ : ByteArray) = strOf [93] from rfl, strOf_append, strOf_append, List.append_assoc]
  rw [e3] at k3
  clear e3 hcs
  generalize hM : [91] ++ (chrS c ++ [93]) = M at *
  obtain ⟨m, hm⟩ : ∃ m, m = M.length := ⟨_, rfl⟩
  rw [← hm] at k3
  have Hr3 := Lib.hid (fun W hW => read_go (some ⟨w5.heap.size, 0, none⟩) C3 M 0 W hW)
  have Hm := Lib.hid hm
  have HM := Lib.hid hM
  have HA6 := Lib.hid hA6
  have hs7 := hs6.below hb6 hs6.lt
  have hx7 := hx6.below hb6 hx6.lt
  have he7 := he6.below hb6 he6.lt
  have HX6 := Lib.hid (HX5.out.trans (hb6.mono HX5.out.size))
  clear hm hM hA6 hb6 hs6 hx6 he6
  go_wp2_with fail
  rw [Hm.out]
  refine (Hr3.out _ HA6.out).mono ?_
  rintro e w7 ⟨rfl, hb7⟩
  rw [HV2.out]
  have hs8 := hs7.below hb7 hs7.lt
  have hx8 := hx7.below hb7 hx7.lt
  have he8 := he7.below hb7 he7.lt
  have HX7 := Lib.hid (HX6.out.trans (hb7.mono HX6.out.size))
  clear hb7 k3 hs7 hx7 he7
  have hz7 := HX7.out.size
  have hlt8 := he8.lt
  go_wp2_with fail
  have HY := Lib.hid ((HX7.out.alloc hz7 (.cells #[.int .u64 ((word (among [c] 1) 0 : Nat) : Int), .int .u64 ((word (among [c] 1) 1 : Nat) : Int), .int .u64 ((word (among [c] 1) 2 : Nat) : Int), .int .u64 ((word (among [c] 1) 3 : Nat) : Int)] 25)).alloc (by simp; omega) (.cells #[.int .i64 0, .int .i64 0] 28))
  have hs9 := (hs8.alloc (.cells #[.int .u64 ((word (among [c] 1) 0 : Nat) : Int), .int .u64 ((word (among [c] 1) 1 : Nat) : Int), .int .u64 ((word (among [c] 1) 2 : Nat) : Int), .int .u64 ((word (among [c] 1) 3 : Nat) : Int)] 25)).alloc (.cells #[.int .i64 0, .int .i64 0] 28)
  have hx9 := (hx8.alloc (.cells #[.int .u64 ((word (among [c] 1) 0 : Nat) : Int), .int .u64 ((word (among [c] 1) 1 : Nat) : Int), .int .u64 ((word (among [c] 1) 2 : Nat) : Int), .int .u64 ((word (among [c] 1) 3 : Nat) : Int)] 25)).alloc (.cells #[.int .i64 0, .int .i64 0] 28)
  have he9 := (he8.alloc (.cells #[.int .u64 ((word (among [c] 1) 0 : Nat) : Int), .int .u64 ((word (among [c] 1) 1 : Nat) : Int), .int .u64 ((word (among [c] 1) 2 : Nat) : Int), .int .u64 ((word (among [c] 1) 3 : Nat) : Int)] 25)).alloc (.cells #[.int .i64 0, .int .i64 0] 28)
  have hy9 : Blk ((w7.alloc (.cells #[.int .u64 ((word (among [c] 1) 0 : Nat) : Int), .int .u64 ((word (among [c] 1) 1 : Nat) : Int), .int .u64 ((word (among [c] 1) 2 : Nat) : Int), .int .u64 ((word (among [c] 1) 3 : Nat) : Int)] 25)).alloc (.cells #[.int .i64 0, .int .i64 0] 28)) w7.heap.size 25 #[.int .u64 ((word (among [c] 1) 0 : Nat) : Int), .int .u64 ((word (among [c] 1) 1 : Nat) : Int), .int .u64 ((word (among [c] 1) 2 : Nat) : Int), .int .u64 ((word (among [c] 1) 3 : Nat) : Int)] := (Blk.new _ _ _).alloc _
  have hf9 : Blk ((w7.alloc (.cells #[.int .u64 ((word (among [c] 1) 0 : Nat) : Int), .int .u64 ((word (among [c] 1) 1 : Nat) : Int), .int .u64 ((word (among [c] 1) 2 : Nat) : Int), .int .u64 ((word (among [c] 1) 3 : Nat) : Int)] 25)).alloc (.cells #[.int .i64 0, .int .i64 0] 28)) (w7.heap.size + 1) 28 #[.int .i64 0, .int .i64 0] := Blk.new_at (by simp)
  have hz9 : w7.heap.size + 1 < ((w7.alloc (.cells #[.int .u64 ((word (among [c] 1) 0 : Nat) : Int), .int .u64 ((word (among [c] 1) 1 : Nat) : Int), .int .u64 ((word (among [c] 1) 2 : Nat) : Int), .int .u64 ((word (among [c] 1) 3 : Nat) : Int)] 25)).alloc (.cells #[.int .i64 0, .int .i64 0] 28)).heap.size := by simp
  generalize (w7.alloc (.cells #[.int .u64 ((word (among [c] 1) 0 : Nat) : Int), .int .u64 ((word (among [c] 1) 1 : Nat) : Int), .int .u64 ((word (among [c] 1) 2 : Nat) : Int), .int .u64 ((word (among [c] 1) 3 : Nat) : Int)] 25)).alloc (.cells #[.int .i64 0, .int .i64 0] 28) = wy at *
  obtain ⟨a0, a1, a2, a3, _, _, _, _⟩ := hs9.c4
  obtain ⟨b0, b1, b2, b3, _, _, _, _⟩ := hx9.c4
  obtain ⟨c0, c1, _, _⟩ := he9.c2
  obtain ⟨d0, d1, d2, d3, _, _, _, _⟩ := hy9.c4
  obtain ⟨e0, e1, _, _⟩ := hf9.c2
  clear hs8 hx8 he8 hs9 hx9 he9 hy9 hf9
  obtain ⟨N, hN⟩ : ∃ N, N = wy.heap.size := ⟨_, rfl⟩
  have hN1 : w7.heap.size + 1 < N := by omega
  have hN3 : w7.heap.size < N := by omega
  have hN4 : w4.heap.size + 1 < N := by omega
  have hN5 : w4.heap.size < N := by omega
  have hN6 : w.heap.size < N := by omega
  have hN2 : N ≤ wy.heap.size := by omega
  have HTy := Lib.hid (TabAt.below HY.out hw0 HT.out)
  have hN7 : 0 < N := by omega
  have hc0 : (0 : Int) ≤ (c : Int) := by omega
  have hc1 : (c : Int) < 256 := by omega
  clear hz9 hN
  have hw2 : IntKind.i64.wrap (((chrS c).length : Int) + 2) = ((chrS c).length : Int) + 2 := IntWalk.i64_in _ (by omega)
  go_region_held3 (fun w' => (∀ b o, b < N → w'.cell? ⟨b, o, none⟩ = wy.cell? ⟨b, o, none⟩) ∧ Since N wy w') (first | exact since_start hN2 | exact since_step (by assumption) (by assumption) | exact since_alloc (by assumption) _)
    (first | (go_at_call 16; refine (of_one c hc _ _ rfl).mono ?_; rintro e w' ⟨rfl, hb'⟩) | (go_at_call 14; refine (chr_go _ _ hc0 hc1).mono ?_; rintro e w' ⟨rfl, hb'⟩) | (go_at_call 11; refine (knows_since (by assumption) HTy.out hN7).mono ?_; rintro e w' ⟨rfl, hb'⟩))
  rename_i hS
  have HB9 := Lib.hid (HY.out.trans (hS.2.1.mono (Nat.le_of_lt hN6)))
  clear hS hw2
  go_wp2
  go_light
  go_ret
  exact ⟨rfl, HB9.out⟩

end Go.Proofs.YtkelkadalikibaaDoor
