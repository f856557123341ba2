/-
  The reference's Nfa of chapter 18 turns a machine round.
-/
import Derived.Test.YtffkppoidollnaaGreatDoorQZ04
import Derived.Test.YtffkppoidollnaaGreatDoorQNfaRr
namespace Go.Proofs.YtffkppoidollnaaGreatDoor
open Go.RowKit
set_option linter.unusedSimpArgs false
set_option linter.unusedVariables false
set_option maxRecDepth 100000

def markA (start k : Nat) : List Int := (List.range k).map fun s => if s = start then 1 else 0
theorem markA_succ (start k : Nat) : markA start (k + 1) = markA start k ++ [if k = start then 1 else 0] := by unfold markA; rw [List.range_succ, List.map_append]; rfl
theorem markA_len (start k : Nat) : (markA start k).length = k := by simp [markA]
theorem markA_all (start n : Nat) : markA start n = (List.replicate n 0).set start 1 := by
  refine List.ext_getElem? fun i => ?_
  unfold markA
  rw [List.getElem?_map, List.getElem?_set]
  rcases Nat.lt_or_ge i n with h | h
  · rw [List.getElem?_range h]
    by_cases e : start = i
    · subst e
      rw [if_pos rfl, if_pos (by simpa using h)]
      simp
    · rw [if_neg e, List.getElem?_replicate, if_pos h]
      have : ¬ i = start := fun h' => e h'.symm
      simp [this]
  · rw [List.getElem?_eq_none (by simpa using h), List.getElem?_eq_none (by simpa using h)]
    split
    · rename_i e
      subst e
      rw [if_neg (by simpa using h)]
      rfl
    · rfl
set_option maxHeartbeats 8000000 in
theorem rmir_yes (start : Nat) (L : List (Int × Int)) (E : List (Int × Nat × Int)) (C : List Int) (A1 : Option Addr) (k1 : Nat) (A2 : Option Addr) (k2 : Nat) (A3 : Option Addr) (k3 : Nat) (label : Int) (w : World) (hN : NfaAt w (NfaV.mk (C.length : Int) (start : Int) L E C) A1 A2 A3)
    (hr : rightN (NfaV.mk (C.length : Int) (start : Int) L E C) = true) (hC : C.length ≤ 65535) (hs : start < C.length) (hl1 : 1 ≤ label) (hl2 : label ≤ 64) (hL : L.length ≤ 1048576) (hE : E.length ≤ 1048576) :
    Calls Tryz.prog 11 #[.agg #[.int .i64 (C.length : Int), .int .i64 (start : Int), .slice A1 L.length k1, .slice A2 E.length k2, .slice A3 C.length k3], .int .i64 label] w fun e w' => ∃ B1 j1 B2 j2 B3 j3, e = .returned (.tuple #[.agg (nfA (mirV (NfaV.mk (C.length : Int) (start : Int) L E C) label) B1 j1 B2 j2 B3 j3), .int .i64 0]) ∧ NfaAt w' (mirV (NfaV.mk (C.length : Int) (start : Int) L E C) label) B1 B2 B3 ∧ Below w.heap.size w w' := by
  have hb2 : Below w.heap.size w ((w.alloc (.cells #[.int .i64 (C.length : Int), .int .i64 (start : Int), .slice A1 L.length k1, .slice A2 E.length k2, .slice A3 C.length k3] 26)).alloc (.cells #[.int .i64 0, .int .i64 0, .slice none 0 0, .slice none 0 0, .slice none 0 0] 26)) := ((Below.refl _ _).alloc (Nat.le_refl _) _).alloc (by simp) _
  have HB2 := Lib.hid hb2
  have HX2 := Lib.hid (show Blk ((w.alloc (.cells #[.int .i64 (C.length : Int), .int .i64 (start : Int), .slice A1 L.length k1, .slice A2 E.length k2, .slice A3 C.length k3] 26)).alloc (.cells #[.int .i64 0, .int .i64 0, .slice none 0 0, .slice none 0 0, .slice none 0 0] 26)) w.heap.size 26 #[.int .i64 (C.length : Int), .int .i64 (start : Int), .slice A1 L.length k1, .slice A2 E.length k2, .slice A3 C.length k3] from (Blk.new _ _ _).alloc _)
  have HZ2 := Lib.hid (show Blk ((w.alloc (.cells #[.int .i64 (C.length : Int), .int .i64 (start : Int), .slice A1 L.length k1, .slice A2 E.length k2, .slice A3 C.length k3] 26)).alloc (.cells #[.int .i64 0, .int .i64 0, .slice none 0 0, .slice none 0 0, .slice none 0 0] 26)) (w.heap.size + 1) 26 #[.int .i64 0, .int .i64 0, .slice none 0 0, .slice none 0 0, .slice none 0 0] from Blk.new_at (by simp))
  have HR := Lib.hid (rright16_go (NfaV.mk (C.length : Int) (start : Int) L E C) A1 k1 A2 k2 A3 k3 _ (hN.below hb2))
  have HN0 := Lib.hid hN
  rw [hr] at HR
  have hadd : IntKind.i64.wrap ((C.length : Int) + 1) = (C.length : Int) + 1 := by rw [IntKind.wrap_i64]; omega
  have hne : ((C.length : Int) == 65536) = false := by simp; omega
  have n1 : ¬ label < 1 := by omega
  have n2 : ¬ 64 < label := by omega
  clear hb2 hN hr
  unfold nfA at HR
  go_enter Tryz.func11, Tryz.ntmps11
  go_upto_region 1 with fail
  generalize ((w.alloc (.cells #[.int .i64 (C.length : Int), .int .i64 (start : Int), .slice A1 L.length k1, .slice A2 E.length k2, .slice A3 C.length k3] 26)).alloc (.cells #[.int .i64 0, .int .i64 0, .slice none 0 0, .slice none 0 0, .slice none 0 0] 26)) = w2 at *
  have hX := HX2.out
  have x0 := hX.cell 0
  have x1 := hX.cell 1
  have x2 := hX.cell 2
  have x3 := hX.cell 3
  have x4 := hX.cell 4
  have hlx := hX.lt
  clear hX
  simp only [List.getElem?_toArray, List.getElem?_cons_zero, List.getElem?_cons_succ] at x0 x1 x2 x3 x4
  go_wp2_with fail
  refine HR.out.mono ?_
  rintro e w3 ⟨rfl, hb3⟩
  have hX3 := HX2.out.below hb3 HX2.out.lt
  have hZ3 := HZ2.out.below hb3 HZ2.out.lt
  have y0 := hX3.cell 0
  simp only [List.getElem?_toArray, List.getElem?_cons_zero, List.getElem?_cons_succ] at y0
  have hlx3 := hX3.lt
  have HB3 := HB2.out.trans (hb3.mono HB2.out.size)
  have hlz3 := hZ3.lt
  have HW0 := Lib.hid (show MW w (w3.alloc (.cells #[.int .i64 ((C.length : Int) + 1), .int .i64 (C.length : Int), .slice none 0 0, .slice none 0 0, .slice none 0 0] 26)) w.heap.size (w.heap.size + 1) w3.heap.size (w3.heap.size + 1) #[.int .i64 (C.length : Int), .int .i64 (start : Int), .slice A1 L.length k1, .slice A2 E.length k2, .slice A3 C.length k3] #[.int .i64 0, .int .i64 0, .slice none 0 0, .slice none 0 0, .slice none 0 0] ((C.length : Int) + 1) (C.length : Int) [] [] (.slice none 0 0) (.slice none 0 0) (.slice none 0 0) from
    ⟨hX3.alloc _, hZ3.alloc _, Blk.new _ _ _, World.ownsRow_nil _ _ _ _, World.ownsRow_nil _ _ _ _, HB3.alloc HB3.size _, ⟨Nat.le_succ _, HB3.size, by have := HB3.size; omega⟩, ⟨by omega, by omega⟩, by simp⟩)
  have HG := Lib.hid (show w.heap.size + 1 < w3.heap.size from hlz3)
  clear hX3 hZ3 hb3 HB3 x0 x1 x2 x3 x4 HR HX2 HZ2 HB2 hlx hlz3
  dsimp only
  go_wp2
  clear y0 hlx3
  generalize w3.alloc (.cells #[.int .i64 ((C.length : Int) + 1), .int .i64 (C.length : Int), .slice none 0 0, .slice none 0 0, .slice none 0 0] 26) = w5 at *
  generalize w3.heap.size + 1 = base at *
  generalize w3.heap.size = gm at *
  go_loopw [7] (fun i wr => ∃ (k : Nat) (u : Value), i = .int .i64 (k : Int) ∧ k ≤ L.length ∧ Hid (MW w wr w.heap.size (w.heap.size + 1) gm base #[.int .i64 (C.length : Int), .int .i64 (start : Int), .slice A1 L.length k1, .slice A2 E.length k2, .slice A3 C.length k3] #[.int .i64 0, .int .i64 0, .slice none 0 0, .slice none 0 0, .slice none 0 0] ((C.length : Int) + 1) (C.length : Int) ((L.take k).map flipL) [] u (.slice none 0 0) (.slice none 0 0))) (fun i _ => L.length - (intOf i).toNat)
  case atStart => exact ⟨0, _, rfl, Nat.zero_le _, HW0⟩
  case round =>
    clear HW0
    obtain ⟨k, u, rfl, hk, HW⟩ := hrel
    have hx0 := HW.out.x
    have x2 := hx0.cell 2
    have hlx := hx0.lt
    have hm0 := HW.out.m
    have m2 := hm0.cell 2
    have hlm := hm0.lt
    simp only [List.getElem?_toArray, List.getElem?_cons_zero, List.getElem?_cons_succ] at x2 m2
    clear hx0 hm0
    by_cases hlt : k < L.length
    · obtain ⟨p, hz⟩ : ∃ p, L[k]? = some p := ⟨_, List.getElem?_eq_getElem hlt⟩
      have HTk := Lib.hid (show (L.take (k + 1)).map flipL = (L.take k).map flipL ++ [flipL p] by rw [List.take_add_one, hz]; simp)
      have hcel := HN0.out.l k p hz
      have hlen : ((L.take k).map flipL).length ≤ 1048576 := by rw [List.length_map, List.length_take]; omega
      clear hz
      generalize (L.take k).map flipL = Lk at *
      obtain ⟨b, o, rfl, v0, v1⟩ := hcel
      obtain ⟨x, y⟩ := p
      have hdl : (k : Int) < (L.length : Int) := by omega
      have hbw : b < w.heap.size := World.block_lt_of_cell? w _ v0
      have hlb2 : b < wr.heap.size := Nat.lt_of_lt_of_le hbw HW.out.b.size
      have c0 := (HW.out.b.cell (p := ⟨b, _, none⟩) hbw).trans v0
      have c1 := (HW.out.b.cell (p := ⟨b, _, none⟩) hbw).trans v1
      clear v0 v1
      obtain ⟨i0, hi, hz0, hz1, hz2⟩ := info_parts info_linkN
      have h63 : Lk.length + 1 ≤ maxLen := Nat.le_trans (by omega) (show 2000000 ≤ maxLen by decide)
      have hby : (Lk.length + 1) * 16 ≤ 140737488355328 := by omega
      have hsz : base ≤ wr.heap.size := HW.out.sz
      have Hnm := Lib.hid (blk_not_row HW.out.m (by decide) HW.out.l)
      have Hnx := Lib.hid (blk_not_row HW.out.x (by decide) HW.out.l)
      have hKl := two_of (Q := fun b => b < wr.heap.size) hlx hlb2
      have Hnb := Lib.hid (show some b ≠ u.ownBlock from fun e => by have := (HW.out.l.lt b e.symm).1; have := HW.out.lo.2.2; have := hbw; omega)
      go_wp2
      refine wp_region_held_drew (S := fun w' => ∀ b' o', b' = w.heap.size ∨ b' = b → w'.cell? ⟨b', o', none⟩ = wr.cell? ⟨b', o', none⟩) (by kernel_rfl) (KeepP.start (fun b' => b' = w.heap.size ∨ b' = b) wr) (fun hHeld => ?_)
      refine wpAnyH_take (i := 0) (oi := _) (v := ?_) rfl (by kernel_rfl) (by kernel_rfl) (by kernel_rfl) (fun _ _ _ h => h) (Or.inl ⟨by kernel_rfl, ?_⟩) (by assumption) ?_
      rotate_left
      · intro w hSw
        try dsimp only at hSw
        go_simp
        try (with_reducible rfl)
      try simp only [Act.put, List.getElem_toArray, List.getElem_cons_zero, List.getElem_cons_succ, List.setIfInBounds_toArray, List.set_cons_zero, List.set_cons_succ]
      refine wpAnyH_take (i := 2) (oi := _) (v := ?_) rfl (by kernel_rfl) (by kernel_rfl) (by kernel_rfl) (fun _ _ _ h => h) (Or.inl ⟨by kernel_rfl, ?_⟩) (by assumption) ?_
      rotate_left
      · intro w hSw
        try dsimp only at hSw
        go_simp
        try (with_reducible rfl)
      try simp only [Act.put, List.getElem_toArray, List.getElem_cons_zero, List.getElem_cons_succ, List.setIfInBounds_toArray, List.set_cons_zero, List.set_cons_succ]
      refine wpAnyH_take (i := 3) (oi := _) (v := ?_) rfl (by kernel_rfl) (by kernel_rfl) (by kernel_rfl) (fun _ _ _ h => h) (Or.inl ⟨by kernel_rfl, ?_⟩) (by assumption) ?_
      rotate_left
      · intro w hSw
        try dsimp only at hSw
        go_simp
        try (with_reducible rfl)
      try simp only [Act.put, List.getElem_toArray, List.getElem_cons_zero, List.getElem_cons_succ, List.setIfInBounds_toArray, List.set_cons_zero, List.set_cons_succ]
      refine wpAnyH_take (i := 4) (oi := _) (v := ?_) rfl (by kernel_rfl) (by kernel_rfl) (by kernel_rfl) (fun _ _ _ h => h) (Or.inl ⟨by kernel_rfl, ?_⟩) (by assumption) ?_
      rotate_left
      · intro w hSw
        try dsimp only at hSw
        go_simp
        try (with_reducible rfl)
      try simp only [Act.put, List.getElem_toArray, List.getElem_cons_zero, List.getElem_cons_succ, List.setIfInBounds_toArray, List.set_cons_zero, List.set_cons_succ]
      refine wpAnyH_take (i := 5) (oi := _) (v := ?_) rfl (by kernel_rfl) (by kernel_rfl) (by kernel_rfl) (fun _ _ _ h => h) (Or.inl ⟨by kernel_rfl, ?_⟩) (by assumption) ?_
      rotate_left
      · intro w hSw
        try dsimp only at hSw
        go_simp
        try (with_reducible rfl)
      try simp only [Act.put, List.getElem_toArray, List.getElem_cons_zero, List.getElem_cons_succ, List.setIfInBounds_toArray, List.set_cons_zero, List.set_cons_succ]
      refine wpAnyH_take (i := 6) (oi := _) (v := ?_) rfl (by kernel_rfl) (by kernel_rfl) (by kernel_rfl) (fun _ _ _ h => h) (Or.inl ⟨by kernel_rfl, ?_⟩) (by assumption) ?_
      rotate_left
      · intro w hSw
        try dsimp only at hSw
        go_simp
        try (with_reducible rfl)
      try simp only [Act.put, List.getElem_toArray, List.getElem_cons_zero, List.getElem_cons_succ, List.setIfInBounds_toArray, List.set_cons_zero, List.set_cons_succ]
      refine wpAnyH_take (i := 7) (oi := _) (v := ?_) rfl (by kernel_rfl) (by kernel_rfl) (by kernel_rfl) (fun _ _ _ h => h) (Or.inl ⟨by kernel_rfl, ?_⟩) (by assumption) ?_
      rotate_left
      · intro w hSw
        try dsimp only at hSw
        go_simp
        try (with_reducible rfl)
      try simp only [Act.put, List.getElem_toArray, List.getElem_cons_zero, List.getElem_cons_succ, List.setIfInBounds_toArray, List.set_cons_zero, List.set_cons_succ]
      refine wpAnyH_take (i := 8) (oi := _) (v := ?_) rfl (by kernel_rfl) (by kernel_rfl) (by kernel_rfl) (fun _ _ _ h => h) (Or.inl ⟨by kernel_rfl, ?_⟩) (by assumption) ?_
      rotate_left
      · intro w hSw
        try dsimp only at hSw
        go_simp
        try (with_reducible rfl)
      try simp only [Act.put, List.getElem_toArray, List.getElem_cons_zero, List.getElem_cons_succ, List.setIfInBounds_toArray, List.set_cons_zero, List.set_cons_succ]
      refine wpAnyH_take (i := 9) (oi := _) (v := ?_) rfl (by kernel_rfl) (by kernel_rfl) (by kernel_rfl) (fun _ _ _ h => h) (Or.inl ⟨by kernel_rfl, ?_⟩) (by assumption) ?_
      rotate_left
      · intro w hSw
        try dsimp only at hSw
        go_simp
        try (with_reducible rfl)
      try simp only [Act.put, List.getElem_toArray, List.getElem_cons_zero, List.getElem_cons_succ, List.setIfInBounds_toArray, List.set_cons_zero, List.set_cons_succ]
      refine wpAnyH_take (i := 10) (oi := _) (v := ?_) rfl (by kernel_rfl) (by kernel_rfl) (by kernel_rfl) (fun _ _ _ h => h) (Or.inl ⟨by kernel_rfl, ?_⟩) (by assumption) ?_
      rotate_left
      · intro w hSw
        try dsimp only at hSw
        go_simp
        try (with_reducible rfl)
      try simp only [Act.put, List.getElem_toArray, List.getElem_cons_zero, List.getElem_cons_succ, List.setIfInBounds_toArray, List.set_cons_zero, List.set_cons_succ]
      refine wpAnyH_take (i := 11) (oi := _) (v := ?_) rfl (by kernel_rfl) (by kernel_rfl) (by kernel_rfl) (fun _ _ _ h => h) (Or.inl ⟨by kernel_rfl, ?_⟩) (by assumption) ?_
      rotate_left
      · intro w hSw
        try dsimp only at hSw
        go_simp
        try (with_reducible rfl)
      try simp only [Act.put, List.getElem_toArray, List.getElem_cons_zero, List.getElem_cons_succ, List.setIfInBounds_toArray, List.set_cons_zero, List.set_cons_succ]
      refine wpAnyH_take (i := 12) (oi := _) (v := ?_) rfl (by kernel_rfl) (by kernel_rfl) (by kernel_rfl) (fun _ _ _ h => h) (Or.inl ⟨by kernel_rfl, ?_⟩) (by assumption) ?_
      rotate_left
      · intro w hSw
        try dsimp only at hSw
        go_simp
        try (with_reducible rfl)
      try simp only [Act.put, List.getElem_toArray, List.getElem_cons_zero, List.getElem_cons_succ, List.setIfInBounds_toArray, List.set_cons_zero, List.set_cons_succ]
      refine wpAnyH_take (i := 13) (oi := _) (v := ?_) rfl (by kernel_rfl) (by kernel_rfl) (by kernel_rfl) (fun _ _ _ h => h) (Or.inl ⟨by kernel_rfl, ?_⟩) (by assumption) ?_
      rotate_left
      · intro w hSw
        try dsimp only at hSw
        go_simp
        try (with_reducible rfl)
      try simp only [Act.put, List.getElem_toArray, List.getElem_cons_zero, List.getElem_cons_succ, List.setIfInBounds_toArray, List.set_cons_zero, List.set_cons_succ]
      refine wpAnyH_take (i := 14) (oi := _) (v := ?_) rfl (by kernel_rfl) (by kernel_rfl) (by kernel_rfl) (fun _ _ _ h => h) (Or.inl ⟨by kernel_rfl, ?_⟩) (by assumption) ?_
      rotate_left
      · intro w hSw
        try dsimp only at hSw
        go_simp
        try (with_reducible rfl)
      try simp only [Act.put, List.getElem_toArray, List.getElem_cons_zero, List.getElem_cons_succ, List.setIfInBounds_toArray, List.set_cons_zero, List.set_cons_succ]
      refine wpAnyH_ready (rs := [1, 15]) (by kernel_rfl) (by simp) ?_
      refine AllReadyH.cons (o := _) rfl (fun K hK => ?_) (AllReadyH.cons (o := _) rfl (fun K hK => ?_) AllReadyH.nil)
      · skip
        go_simp
        refine hK.out _ _ hHeld (fun _ => ?_)
        clear hK K hHeld
        try simp only [Act.put, List.getElem_toArray, List.getElem_cons_zero, List.getElem_cons_succ, List.setIfInBounds_toArray, List.set_cons_zero, List.set_cons_succ]
        refine wpAnyH_ready (rs := [15]) (by kernel_rfl) (by simp) ?_
        refine AllReadyH.cons (o := _) rfl (fun K hK => ?_) AllReadyH.nil
        go_simp
        refine hK.out _ _ (KeepP.alloc (KeepP.start (fun b' => b' = w.heap.size ∨ b' = b) wr) hKl _) (fun _ => ?_)
        clear hK K
        try simp only [Act.put, List.getElem_toArray, List.getElem_cons_zero, List.getElem_cons_succ, List.setIfInBounds_toArray, List.set_cons_zero, List.set_cons_succ]
        refine wpAnyH_ready (rs := [16]) (by kernel_rfl) (by simp) ?_
        refine AllReadyH.cons (o := _) rfl (fun K hK => ?_) AllReadyH.nil
        refine step_append_lies _ (by rfl) _ _ _ (by rfl) base 69 i0 _ 2 16 Tryz.underlying22 hi hz0 hz1 hz2 rfl (by decide) u Lk.length (linksI Lk) (by rfl) (HW.out.l.drew.alloc _) ⟨wr.heap.size, 0, none⟩ 1 1 [.int .i64 y, .int .i64 x] (by rfl) (by rfl) (World.news_of_block (cs := #[.int .i64 y, .int .i64 x]) (t := 69) (fr := (0, 0)) (heap_alloc_new wr.drew _)) (by simp [Value.oneCell']) (by decide) h63 hby (by simp; omega) (wr.heap.size + 1) (by simp) ?_
        intro gg cap wq hownq hgrowq hatq hltq
        have HaB := Lib.hid ((Below.refl wr.heap.size wr).drew.alloc (Nat.le_refl _) (.cells #[.int .i64 y, .int .i64 x] 69))
        have hG1 := grown_blk HW.out.m HaB.out hgrowq Hnm.out
        have d0 := hG1.frozen 2
        have e0 := hG1.cell 2
        have hgl := hG1.lt
        simp only [List.getElem?_toArray, List.getElem?_cons_zero, List.getElem?_cons_succ] at e0
        have HKG := Lib.hid (KeepP.grown (KeepP.alloc (KeepP.start (fun b' => b' = w.heap.size ∨ b' = b) wr) hKl (.cells #[.int .i64 y, .int .i64 x] 69)) hgrowq (two_of (Q := fun b => b < _ ∧ some b ≠ u.ownBlock) ⟨by simp; omega, Hnx.out⟩ ⟨by simp; omega, Hnb.out⟩))
        have Hgrow := Lib.hid hgrowq
        have Hown := Lib.hid hownq
        clear hG1 hgrowq hownq hatq
        refine hK.out _ _ HKG.out (fun _ => ?_)
        clear hK K
        try simp only [Act.put, List.getElem_toArray, List.getElem_cons_zero, List.getElem_cons_succ, List.setIfInBounds_toArray, List.set_cons_zero, List.set_cons_succ]
        refine wpAnyH_take (i := 17) (oi := _) (v := ?_) rfl (by kernel_rfl) (by kernel_rfl) (by kernel_rfl) (fun _ _ _ h => h) (Or.inl ⟨by kernel_rfl, ?_⟩) (by assumption) ?_
        rotate_left
        · intro w hSw
          try dsimp only at hSw
          go_simp
          try (with_reducible rfl)
        try simp only [Act.put, List.getElem_toArray, List.getElem_cons_zero, List.getElem_cons_succ, List.setIfInBounds_toArray, List.set_cons_zero, List.set_cons_succ]
        refine wpAnyH_ready (rs := [18]) (by kernel_rfl) (by simp) ?_
        refine AllReadyH.cons (o := _) rfl (fun K hK => ?_) AllReadyH.nil
        go_simp
        refine hK.out _ _ (KeepP.set HKG.out (p := ⟨gm, 2, none⟩) (two_of (Q := fun b => b ≠ gm) HW.out.ne.1 (fun e => by have := HW.out.lo.2.1; rw [← e] at this; have := hbw; omega)) _) (fun _ => ?_)
        clear hK K
        try simp only [Act.put, List.getElem_toArray, List.getElem_cons_zero, List.getElem_cons_succ, List.setIfInBounds_toArray, List.set_cons_zero, List.set_cons_succ]
        refine wpAnyH_done (by kernel_rfl) ?_ _
        have HW2 := Lib.hid (HW.out.link (p := (y, x)) HaB.out Hgrow.out Hown.out)
        clear HW HaB Hgrow Hown HKG
        go_wp2
        go_light
        go_roundw
        case rel => exact ⟨k + 1, _, by go_num, by omega, by rw [HTk.out]; exact HW2⟩
        case measure => simp [intOf]; omega
      · skip
        go_simp
        refine hK.out _ _ (KeepP.alloc (KeepP.start (fun b' => b' = w.heap.size ∨ b' = b) wr) hKl _) (fun _ => ?_)
        clear hK K hHeld
        try simp only [Act.put, List.getElem_toArray, List.getElem_cons_zero, List.getElem_cons_succ, List.setIfInBounds_toArray, List.set_cons_zero, List.set_cons_succ]
        refine wpAnyH_ready (rs := [1]) (by kernel_rfl) (by simp) ?_
        refine AllReadyH.cons (o := _) rfl (fun K hK => ?_) AllReadyH.nil
        go_simp
        refine hK.out _ _ (by assumption) (fun _ => ?_)
        clear hK K
        try simp only [Act.put, List.getElem_toArray, List.getElem_cons_zero, List.getElem_cons_succ, List.setIfInBounds_toArray, List.set_cons_zero, List.set_cons_succ]
        refine wpAnyH_ready (rs := [16]) (by kernel_rfl) (by simp) ?_
        refine AllReadyH.cons (o := _) rfl (fun K hK => ?_) AllReadyH.nil
        refine step_append_lies _ (by rfl) _ _ _ (by rfl) base 69 i0 _ 2 16 Tryz.underlying22 hi hz0 hz1 hz2 rfl (by decide) u Lk.length (linksI Lk) (by rfl) (HW.out.l.drew.alloc _) ⟨wr.heap.size, 0, none⟩ 1 1 [.int .i64 y, .int .i64 x] (by rfl) (by rfl) (World.news_of_block (cs := #[.int .i64 y, .int .i64 x]) (t := 69) (fr := (0, 0)) (heap_alloc_new wr.drew _)) (by simp [Value.oneCell']) (by decide) h63 hby (by simp; omega) (wr.heap.size + 1) (by simp) ?_
        intro gg cap wq hownq hgrowq hatq hltq
        have HaB := Lib.hid ((Below.refl wr.heap.size wr).drew.alloc (Nat.le_refl _) (.cells #[.int .i64 y, .int .i64 x] 69))
        have hG1 := grown_blk HW.out.m HaB.out hgrowq Hnm.out
        have d0 := hG1.frozen 2
        have e0 := hG1.cell 2
        have hgl := hG1.lt
        simp only [List.getElem?_toArray, List.getElem?_cons_zero, List.getElem?_cons_succ] at e0
        have HKG := Lib.hid (KeepP.grown (KeepP.alloc (KeepP.start (fun b' => b' = w.heap.size ∨ b' = b) wr) hKl (.cells #[.int .i64 y, .int .i64 x] 69)) hgrowq (two_of (Q := fun b => b < _ ∧ some b ≠ u.ownBlock) ⟨by simp; omega, Hnx.out⟩ ⟨by simp; omega, Hnb.out⟩))
        have Hgrow := Lib.hid hgrowq
        have Hown := Lib.hid hownq
        clear hG1 hgrowq hownq hatq
        refine hK.out _ _ HKG.out (fun _ => ?_)
        clear hK K
        try simp only [Act.put, List.getElem_toArray, List.getElem_cons_zero, List.getElem_cons_succ, List.setIfInBounds_toArray, List.set_cons_zero, List.set_cons_succ]
        refine wpAnyH_take (i := 17) (oi := _) (v := ?_) rfl (by kernel_rfl) (by kernel_rfl) (by kernel_rfl) (fun _ _ _ h => h) (Or.inl ⟨by kernel_rfl, ?_⟩) (by assumption) ?_
        rotate_left
        · intro w hSw
          try dsimp only at hSw
          go_simp
          try (with_reducible rfl)
        try simp only [Act.put, List.getElem_toArray, List.getElem_cons_zero, List.getElem_cons_succ, List.setIfInBounds_toArray, List.set_cons_zero, List.set_cons_succ]
        refine wpAnyH_ready (rs := [18]) (by kernel_rfl) (by simp) ?_
        refine AllReadyH.cons (o := _) rfl (fun K hK => ?_) AllReadyH.nil
        go_simp
        refine hK.out _ _ (KeepP.set HKG.out (p := ⟨gm, 2, none⟩) (two_of (Q := fun b => b ≠ gm) HW.out.ne.1 (fun e => by have := HW.out.lo.2.1; rw [← e] at this; have := hbw; omega)) _) (fun _ => ?_)
        clear hK K
        try simp only [Act.put, List.getElem_toArray, List.getElem_cons_zero, List.getElem_cons_succ, List.setIfInBounds_toArray, List.set_cons_zero, List.set_cons_succ]
        refine wpAnyH_done (by kernel_rfl) ?_ _
        have HW2 := Lib.hid (HW.out.link (p := (y, x)) HaB.out Hgrow.out Hown.out)
        clear HW HaB Hgrow Hown HKG
        go_wp2
        go_light
        go_roundw
        case rel => exact ⟨k + 1, _, by go_num, by omega, by rw [HTk.out]; exact HW2⟩
        case measure => simp [intOf]; omega
    · obtain rfl : k = L.length := by omega
      have hdl : ¬ ((L.length : Int) < (L.length : Int)) := by omega
      rw [List.take_length] at HW
      go_wp2
      clear x2 m2 hlx hlm hlt hdl hk
      have HW0 := HW
      generalize u = uL at *
      go_loopw [8] (fun i wr => ∃ (k : Nat) (u : Value), i = .int .i64 (k : Int) ∧ k ≤ E.length ∧ Hid (MW w wr w.heap.size (w.heap.size + 1) gm base #[.int .i64 (C.length : Int), .int .i64 (start : Int), .slice A1 L.length k1, .slice A2 E.length k2, .slice A3 C.length k3] #[.int .i64 0, .int .i64 0, .slice none 0 0, .slice none 0 0, .slice none 0 0] ((C.length : Int) + 1) (C.length : Int) (L.map flipL) ((E.take k).map flipE) uL u (.slice none 0 0))) (fun i _ => E.length - (intOf i).toNat)
      case atStart => exact ⟨0, _, rfl, Nat.zero_le _, HW0⟩
      case round =>
        clear HW0
        obtain ⟨k, u, rfl, hk, HW⟩ := hrel
        have hx0 := HW.out.x
        have x3 := hx0.cell 3
        have hlx := hx0.lt
        have hm0 := HW.out.m
        have m3 := hm0.cell 3
        have hlm := hm0.lt
        simp only [List.getElem?_toArray, List.getElem?_cons_zero, List.getElem?_cons_succ] at x3 m3
        clear hx0 hm0
        by_cases hlt : k < E.length
        · obtain ⟨p, hz⟩ : ∃ p, E[k]? = some p := ⟨_, List.getElem?_eq_getElem hlt⟩
          have HTk := Lib.hid (show (E.take (k + 1)).map flipE = (E.take k).map flipE ++ [flipE p] by rw [List.take_add_one, hz]; simp)
          have hcel := HN0.out.e k p hz
          have hlen : ((E.take k).map flipE).length ≤ 1048576 := by rw [List.length_map, List.length_take]; omega
          clear hz
          generalize (E.take k).map flipE = Lk at *
          obtain ⟨b, o, rfl, v0, v1, v2, v3, v4, v5⟩ := hcel
          obtain ⟨x, s, y⟩ := p
          have hdl : (k : Int) < (E.length : Int) := by omega
          have hbw : b < w.heap.size := World.block_lt_of_cell? w _ v0
          have hlb2 : b < wr.heap.size := Nat.lt_of_lt_of_le hbw HW.out.b.size
          have c0 := (HW.out.b.cell (p := ⟨b, _, none⟩) hbw).trans v0
          have c1 := (HW.out.b.cell (p := ⟨b, _, none⟩) hbw).trans v1
          have c2 := (HW.out.b.cell (p := ⟨b, _, none⟩) hbw).trans v2
          have c3 := (HW.out.b.cell (p := ⟨b, _, none⟩) hbw).trans v3
          have c4 := (HW.out.b.cell (p := ⟨b, _, none⟩) hbw).trans v4
          have c5 := (HW.out.b.cell (p := ⟨b, _, none⟩) hbw).trans v5
          clear v0 v1 v2 v3 v4 v5
          obtain ⟨i0, hi, hz0, hz1, hz2⟩ := info_parts info_edgeN
          have h63 : Lk.length + 1 ≤ maxLen := Nat.le_trans (by omega) (show 2000000 ≤ maxLen by decide)
          have hby : (Lk.length + 1) * 48 ≤ 140737488355328 := by omega
          have hsz : base ≤ wr.heap.size := HW.out.sz
          have Hnm := Lib.hid (blk_not_row HW.out.m (by decide) HW.out.e)
          have Hnx := Lib.hid (blk_not_row HW.out.x (by decide) HW.out.e)
          have hKl := two_of (Q := fun b => b < wr.heap.size) hlx hlb2
          have Hnb := Lib.hid (show some b ≠ u.ownBlock from fun e => by have := (HW.out.e.lt b e.symm).1; have := HW.out.lo.2.2; have := hbw; omega)
          go_wp2
          refine wp_region_held_drew (S := fun w' => ∀ b' o', b' = w.heap.size ∨ b' = b → w'.cell? ⟨b', o', none⟩ = wr.cell? ⟨b', o', none⟩) (by kernel_rfl) (KeepP.start (fun b' => b' = w.heap.size ∨ b' = b) wr) (fun hHeld => ?_)
          refine wpAnyH_take (i := 0) (oi := _) (v := ?_) rfl (by kernel_rfl) (by kernel_rfl) (by kernel_rfl) (fun _ _ _ h => h) (Or.inl ⟨by kernel_rfl, ?_⟩) (by assumption) ?_
          rotate_left
          · intro w hSw
            try dsimp only at hSw
            go_simp
            try (with_reducible rfl)
          try simp only [Act.put, List.getElem_toArray, List.getElem_cons_zero, List.getElem_cons_succ, List.setIfInBounds_toArray, List.set_cons_zero, List.set_cons_succ]
          refine wpAnyH_take (i := 2) (oi := _) (v := ?_) rfl (by kernel_rfl) (by kernel_rfl) (by kernel_rfl) (fun _ _ _ h => h) (Or.inl ⟨by kernel_rfl, ?_⟩) (by assumption) ?_
          rotate_left
          · intro w hSw
            try dsimp only at hSw
            go_simp
            try (with_reducible rfl)
          try simp only [Act.put, List.getElem_toArray, List.getElem_cons_zero, List.getElem_cons_succ, List.setIfInBounds_toArray, List.set_cons_zero, List.set_cons_succ]
          refine wpAnyH_take (i := 3) (oi := _) (v := ?_) rfl (by kernel_rfl) (by kernel_rfl) (by kernel_rfl) (fun _ _ _ h => h) (Or.inl ⟨by kernel_rfl, ?_⟩) (by assumption) ?_
          rotate_left
          · intro w hSw
            try dsimp only at hSw
            go_simp
            try (with_reducible rfl)
          try simp only [Act.put, List.getElem_toArray, List.getElem_cons_zero, List.getElem_cons_succ, List.setIfInBounds_toArray, List.set_cons_zero, List.set_cons_succ]
          refine wpAnyH_take (i := 4) (oi := _) (v := ?_) rfl (by kernel_rfl) (by kernel_rfl) (by kernel_rfl) (fun _ _ _ h => h) (Or.inl ⟨by kernel_rfl, ?_⟩) (by assumption) ?_
          rotate_left
          · intro w hSw
            try dsimp only at hSw
            go_simp
            try (with_reducible rfl)
          try simp only [Act.put, List.getElem_toArray, List.getElem_cons_zero, List.getElem_cons_succ, List.setIfInBounds_toArray, List.set_cons_zero, List.set_cons_succ]
          refine wpAnyH_take (i := 5) (oi := _) (v := ?_) rfl (by kernel_rfl) (by kernel_rfl) (by kernel_rfl) (fun _ _ _ h => h) (Or.inl ⟨by kernel_rfl, ?_⟩) (by assumption) ?_
          rotate_left
          · intro w hSw
            try dsimp only at hSw
            go_simp
            try (with_reducible rfl)
          try simp only [Act.put, List.getElem_toArray, List.getElem_cons_zero, List.getElem_cons_succ, List.setIfInBounds_toArray, List.set_cons_zero, List.set_cons_succ]
          refine wpAnyH_take (i := 6) (oi := _) (v := ?_) rfl (by kernel_rfl) (by kernel_rfl) (by kernel_rfl) (fun _ _ _ h => h) (Or.inl ⟨by kernel_rfl, ?_⟩) (by assumption) ?_
          rotate_left
          · intro w hSw
            try dsimp only at hSw
            go_simp
            try (with_reducible rfl)
          try simp only [Act.put, List.getElem_toArray, List.getElem_cons_zero, List.getElem_cons_succ, List.setIfInBounds_toArray, List.set_cons_zero, List.set_cons_succ]
          refine wpAnyH_take (i := 7) (oi := _) (v := ?_) rfl (by kernel_rfl) (by kernel_rfl) (by kernel_rfl) (fun _ _ _ h => h) (Or.inl ⟨by kernel_rfl, ?_⟩) (by assumption) ?_
          rotate_left
          · intro w hSw
            try dsimp only at hSw
            go_simp
            try (with_reducible rfl)
          try simp only [Act.put, List.getElem_toArray, List.getElem_cons_zero, List.getElem_cons_succ, List.setIfInBounds_toArray, List.set_cons_zero, List.set_cons_succ]
          refine wpAnyH_take (i := 8) (oi := _) (v := ?_) rfl (by kernel_rfl) (by kernel_rfl) (by kernel_rfl) (fun _ _ _ h => h) (Or.inl ⟨by kernel_rfl, ?_⟩) (by assumption) ?_
          rotate_left
          · intro w hSw
            try dsimp only at hSw
            go_simp
            try (with_reducible rfl)
          try simp only [Act.put, List.getElem_toArray, List.getElem_cons_zero, List.getElem_cons_succ, List.setIfInBounds_toArray, List.set_cons_zero, List.set_cons_succ]
          refine wpAnyH_take (i := 9) (oi := _) (v := ?_) rfl (by kernel_rfl) (by kernel_rfl) (by kernel_rfl) (fun _ _ _ h => h) (Or.inl ⟨by kernel_rfl, ?_⟩) (by assumption) ?_
          rotate_left
          · intro w hSw
            try dsimp only at hSw
            go_simp
            try (with_reducible rfl)
          try simp only [Act.put, List.getElem_toArray, List.getElem_cons_zero, List.getElem_cons_succ, List.setIfInBounds_toArray, List.set_cons_zero, List.set_cons_succ]
          refine wpAnyH_take (i := 10) (oi := _) (v := ?_) rfl (by kernel_rfl) (by kernel_rfl) (by kernel_rfl) (fun _ _ _ h => h) (Or.inl ⟨by kernel_rfl, ?_⟩) (by assumption) ?_
          rotate_left
          · intro w hSw
            try dsimp only at hSw
            go_simp
            try (with_reducible rfl)
          try simp only [Act.put, List.getElem_toArray, List.getElem_cons_zero, List.getElem_cons_succ, List.setIfInBounds_toArray, List.set_cons_zero, List.set_cons_succ]
          refine wpAnyH_take (i := 11) (oi := _) (v := ?_) rfl (by kernel_rfl) (by kernel_rfl) (by kernel_rfl) (fun _ _ _ h => h) (Or.inl ⟨by kernel_rfl, ?_⟩) (by assumption) ?_
          rotate_left
          · intro w hSw
            try dsimp only at hSw
            go_simp
            try (with_reducible rfl)
          try simp only [Act.put, List.getElem_toArray, List.getElem_cons_zero, List.getElem_cons_succ, List.setIfInBounds_toArray, List.set_cons_zero, List.set_cons_succ]
          refine wpAnyH_take (i := 12) (oi := _) (v := ?_) rfl (by kernel_rfl) (by kernel_rfl) (by kernel_rfl) (fun _ _ _ h => h) (Or.inl ⟨by kernel_rfl, ?_⟩) (by assumption) ?_
          rotate_left
          · intro w hSw
            try dsimp only at hSw
            go_simp
            try (with_reducible rfl)
          try simp only [Act.put, List.getElem_toArray, List.getElem_cons_zero, List.getElem_cons_succ, List.setIfInBounds_toArray, List.set_cons_zero, List.set_cons_succ]
          refine wpAnyH_take (i := 13) (oi := _) (v := ?_) rfl (by kernel_rfl) (by kernel_rfl) (by kernel_rfl) (fun _ _ _ h => h) (Or.inl ⟨by kernel_rfl, ?_⟩) (by assumption) ?_
          rotate_left
          · intro w hSw
            try dsimp only at hSw
            go_simp
            try (with_reducible rfl)
          try simp only [Act.put, List.getElem_toArray, List.getElem_cons_zero, List.getElem_cons_succ, List.setIfInBounds_toArray, List.set_cons_zero, List.set_cons_succ]
          refine wpAnyH_take (i := 14) (oi := _) (v := ?_) rfl (by kernel_rfl) (by kernel_rfl) (by kernel_rfl) (fun _ _ _ h => h) (Or.inl ⟨by kernel_rfl, ?_⟩) (by assumption) ?_
          rotate_left
          · intro w hSw
            try dsimp only at hSw
            go_simp
            try (with_reducible rfl)
          try simp only [Act.put, List.getElem_toArray, List.getElem_cons_zero, List.getElem_cons_succ, List.setIfInBounds_toArray, List.set_cons_zero, List.set_cons_succ]
          refine wpAnyH_take (i := 15) (oi := _) (v := ?_) rfl (by kernel_rfl) (by kernel_rfl) (by kernel_rfl) (fun _ _ _ h => h) (Or.inl ⟨by kernel_rfl, ?_⟩) (by assumption) ?_
          rotate_left
          · intro w hSw
            try dsimp only at hSw
            go_simp
            try (with_reducible rfl)
          try simp only [Act.put, List.getElem_toArray, List.getElem_cons_zero, List.getElem_cons_succ, List.setIfInBounds_toArray, List.set_cons_zero, List.set_cons_succ]
          refine wpAnyH_take (i := 16) (oi := _) (v := ?_) rfl (by kernel_rfl) (by kernel_rfl) (by kernel_rfl) (fun _ _ _ h => h) (Or.inl ⟨by kernel_rfl, ?_⟩) (by assumption) ?_
          rotate_left
          · intro w hSw
            try dsimp only at hSw
            go_simp
            try (with_reducible rfl)
          try simp only [Act.put, List.getElem_toArray, List.getElem_cons_zero, List.getElem_cons_succ, List.setIfInBounds_toArray, List.set_cons_zero, List.set_cons_succ]
          refine wpAnyH_take (i := 17) (oi := _) (v := ?_) rfl (by kernel_rfl) (by kernel_rfl) (by kernel_rfl) (fun _ _ _ h => h) (Or.inl ⟨by kernel_rfl, ?_⟩) (by assumption) ?_
          rotate_left
          · intro w hSw
            try dsimp only at hSw
            go_simp
            try (with_reducible rfl)
          try simp only [Act.put, List.getElem_toArray, List.getElem_cons_zero, List.getElem_cons_succ, List.setIfInBounds_toArray, List.set_cons_zero, List.set_cons_succ]
          refine wpAnyH_take (i := 18) (oi := _) (v := ?_) rfl (by kernel_rfl) (by kernel_rfl) (by kernel_rfl) (fun _ _ _ h => h) (Or.inl ⟨by kernel_rfl, ?_⟩) (by assumption) ?_
          rotate_left
          · intro w hSw
            try dsimp only at hSw
            go_simp
            try (with_reducible rfl)
          try simp only [Act.put, List.getElem_toArray, List.getElem_cons_zero, List.getElem_cons_succ, List.setIfInBounds_toArray, List.set_cons_zero, List.set_cons_succ]
          refine wpAnyH_take (i := 19) (oi := _) (v := ?_) rfl (by kernel_rfl) (by kernel_rfl) (by kernel_rfl) (fun _ _ _ h => h) (Or.inl ⟨by kernel_rfl, ?_⟩) (by assumption) ?_
          rotate_left
          · intro w hSw
            try dsimp only at hSw
            go_simp
            try (with_reducible rfl)
          try simp only [Act.put, List.getElem_toArray, List.getElem_cons_zero, List.getElem_cons_succ, List.setIfInBounds_toArray, List.set_cons_zero, List.set_cons_succ]
          refine wpAnyH_take (i := 20) (oi := _) (v := ?_) rfl (by kernel_rfl) (by kernel_rfl) (by kernel_rfl) (fun _ _ _ h => h) (Or.inl ⟨by kernel_rfl, ?_⟩) (by assumption) ?_
          rotate_left
          · intro w hSw
            try dsimp only at hSw
            go_simp
            try (with_reducible rfl)
          try simp only [Act.put, List.getElem_toArray, List.getElem_cons_zero, List.getElem_cons_succ, List.setIfInBounds_toArray, List.set_cons_zero, List.set_cons_succ]
          refine wpAnyH_ready (rs := [1, 21]) (by kernel_rfl) (by simp) ?_
          refine AllReadyH.cons (o := _) rfl (fun K hK => ?_) (AllReadyH.cons (o := _) rfl (fun K hK => ?_) AllReadyH.nil)
          · skip
            go_simp
            refine hK.out _ _ hHeld (fun _ => ?_)
            clear hK K hHeld
            try simp only [Act.put, List.getElem_toArray, List.getElem_cons_zero, List.getElem_cons_succ, List.setIfInBounds_toArray, List.set_cons_zero, List.set_cons_succ]
            refine wpAnyH_ready (rs := [21]) (by kernel_rfl) (by simp) ?_
            refine AllReadyH.cons (o := _) rfl (fun K hK => ?_) AllReadyH.nil
            go_simp
            refine hK.out _ _ (KeepP.alloc (KeepP.start (fun b' => b' = w.heap.size ∨ b' = b) wr) hKl _) (fun _ => ?_)
            clear hK K
            try simp only [Act.put, List.getElem_toArray, List.getElem_cons_zero, List.getElem_cons_succ, List.setIfInBounds_toArray, List.set_cons_zero, List.set_cons_succ]
            refine wpAnyH_ready (rs := [22]) (by kernel_rfl) (by simp) ?_
            refine AllReadyH.cons (o := _) rfl (fun K hK => ?_) AllReadyH.nil
            refine step_append_lies _ (by rfl) _ _ _ (by rfl) base 73 i0 _ 6 48 Tryz.underlying23 hi hz0 hz1 hz2 rfl (by decide) u Lk.length (edgesI Lk) (by rfl) (HW.out.e.drew.alloc _) ⟨wr.heap.size, 0, none⟩ 1 1 [.int .i64 y, .int .u64 ((word s.testBit 0 : Nat) : Int), .int .u64 ((word s.testBit 1 : Nat) : Int), .int .u64 ((word s.testBit 2 : Nat) : Int), .int .u64 ((word s.testBit 3 : Nat) : Int), .int .i64 x] (by rfl) (by rfl) (World.news_of_block (cs := #[.int .i64 y, .int .u64 ((word s.testBit 0 : Nat) : Int), .int .u64 ((word s.testBit 1 : Nat) : Int), .int .u64 ((word s.testBit 2 : Nat) : Int), .int .u64 ((word s.testBit 3 : Nat) : Int), .int .i64 x]) (t := 73) (fr := (0, 0)) (heap_alloc_new wr.drew _)) (by simp [Value.oneCell']) (by decide) h63 hby (by simp; omega) (wr.heap.size + 1) (by simp) ?_
            intro gg cap wq hownq hgrowq hatq hltq
            have HaB := Lib.hid ((Below.refl wr.heap.size wr).drew.alloc (Nat.le_refl _) (.cells #[.int .i64 y, .int .u64 ((word s.testBit 0 : Nat) : Int), .int .u64 ((word s.testBit 1 : Nat) : Int), .int .u64 ((word s.testBit 2 : Nat) : Int), .int .u64 ((word s.testBit 3 : Nat) : Int), .int .i64 x] 73))
            have hG1 := grown_blk HW.out.m HaB.out hgrowq Hnm.out
            have d0 := hG1.frozen 3
            have e0 := hG1.cell 3
            have hgl := hG1.lt
            simp only [List.getElem?_toArray, List.getElem?_cons_zero, List.getElem?_cons_succ] at e0
            have HKG := Lib.hid (KeepP.grown (KeepP.alloc (KeepP.start (fun b' => b' = w.heap.size ∨ b' = b) wr) hKl (.cells #[.int .i64 y, .int .u64 ((word s.testBit 0 : Nat) : Int), .int .u64 ((word s.testBit 1 : Nat) : Int), .int .u64 ((word s.testBit 2 : Nat) : Int), .int .u64 ((word s.testBit 3 : Nat) : Int), .int .i64 x] 73)) hgrowq (two_of (Q := fun b => b < _ ∧ some b ≠ u.ownBlock) ⟨by simp; omega, Hnx.out⟩ ⟨by simp; omega, Hnb.out⟩))
            have Hgrow := Lib.hid hgrowq
            have Hown := Lib.hid hownq
            clear hG1 hgrowq hownq hatq
            refine hK.out _ _ HKG.out (fun _ => ?_)
            clear hK K
            try simp only [Act.put, List.getElem_toArray, List.getElem_cons_zero, List.getElem_cons_succ, List.setIfInBounds_toArray, List.set_cons_zero, List.set_cons_succ]
            refine wpAnyH_take (i := 23) (oi := _) (v := ?_) rfl (by kernel_rfl) (by kernel_rfl) (by kernel_rfl) (fun _ _ _ h => h) (Or.inl ⟨by kernel_rfl, ?_⟩) (by assumption) ?_
            rotate_left
            · intro w hSw
              try dsimp only at hSw
              go_simp
              try (with_reducible rfl)
            try simp only [Act.put, List.getElem_toArray, List.getElem_cons_zero, List.getElem_cons_succ, List.setIfInBounds_toArray, List.set_cons_zero, List.set_cons_succ]
            refine wpAnyH_ready (rs := [24]) (by kernel_rfl) (by simp) ?_
            refine AllReadyH.cons (o := _) rfl (fun K hK => ?_) AllReadyH.nil
            go_simp
            refine hK.out _ _ (KeepP.set HKG.out (p := ⟨gm, 3, none⟩) (two_of (Q := fun b => b ≠ gm) HW.out.ne.1 (fun e => by have := HW.out.lo.2.1; rw [← e] at this; have := hbw; omega)) _) (fun _ => ?_)
            clear hK K
            try simp only [Act.put, List.getElem_toArray, List.getElem_cons_zero, List.getElem_cons_succ, List.setIfInBounds_toArray, List.set_cons_zero, List.set_cons_succ]
            refine wpAnyH_done (by kernel_rfl) ?_ _
            have HW2 := Lib.hid (HW.out.edge (p := (y, s, x)) HaB.out Hgrow.out Hown.out)
            clear HW HaB Hgrow Hown HKG
            go_wp2
            go_light
            go_roundw
            case rel => exact ⟨k + 1, _, by go_num, by omega, by rw [HTk.out]; exact HW2⟩
            case measure => simp [intOf]; omega
          · skip
            go_simp
            refine hK.out _ _ (KeepP.alloc (KeepP.start (fun b' => b' = w.heap.size ∨ b' = b) wr) hKl _) (fun _ => ?_)
            clear hK K hHeld
            try simp only [Act.put, List.getElem_toArray, List.getElem_cons_zero, List.getElem_cons_succ, List.setIfInBounds_toArray, List.set_cons_zero, List.set_cons_succ]
            refine wpAnyH_ready (rs := [1]) (by kernel_rfl) (by simp) ?_
            refine AllReadyH.cons (o := _) rfl (fun K hK => ?_) AllReadyH.nil
            go_simp
            refine hK.out _ _ (by assumption) (fun _ => ?_)
            clear hK K
            try simp only [Act.put, List.getElem_toArray, List.getElem_cons_zero, List.getElem_cons_succ, List.setIfInBounds_toArray, List.set_cons_zero, List.set_cons_succ]
            refine wpAnyH_ready (rs := [22]) (by kernel_rfl) (by simp) ?_
            refine AllReadyH.cons (o := _) rfl (fun K hK => ?_) AllReadyH.nil
            refine step_append_lies _ (by rfl) _ _ _ (by rfl) base 73 i0 _ 6 48 Tryz.underlying23 hi hz0 hz1 hz2 rfl (by decide) u Lk.length (edgesI Lk) (by rfl) (HW.out.e.drew.alloc _) ⟨wr.heap.size, 0, none⟩ 1 1 [.int .i64 y, .int .u64 ((word s.testBit 0 : Nat) : Int), .int .u64 ((word s.testBit 1 : Nat) : Int), .int .u64 ((word s.testBit 2 : Nat) : Int), .int .u64 ((word s.testBit 3 : Nat) : Int), .int .i64 x] (by rfl) (by rfl) (World.news_of_block (cs := #[.int .i64 y, .int .u64 ((word s.testBit 0 : Nat) : Int), .int .u64 ((word s.testBit 1 : Nat) : Int), .int .u64 ((word s.testBit 2 : Nat) : Int), .int .u64 ((word s.testBit 3 : Nat) : Int), .int .i64 x]) (t := 73) (fr := (0, 0)) (heap_alloc_new wr.drew _)) (by simp [Value.oneCell']) (by decide) h63 hby (by simp; omega) (wr.heap.size + 1) (by simp) ?_
            intro gg cap wq hownq hgrowq hatq hltq
            have HaB := Lib.hid ((Below.refl wr.heap.size wr).drew.alloc (Nat.le_refl _) (.cells #[.int .i64 y, .int .u64 ((word s.testBit 0 : Nat) : Int), .int .u64 ((word s.testBit 1 : Nat) : Int), .int .u64 ((word s.testBit 2 : Nat) : Int), .int .u64 ((word s.testBit 3 : Nat) : Int), .int .i64 x] 73))
            have hG1 := grown_blk HW.out.m HaB.out hgrowq Hnm.out
            have d0 := hG1.frozen 3
            have e0 := hG1.cell 3
            have hgl := hG1.lt
            simp only [List.getElem?_toArray, List.getElem?_cons_zero, List.getElem?_cons_succ] at e0
            have HKG := Lib.hid (KeepP.grown (KeepP.alloc (KeepP.start (fun b' => b' = w.heap.size ∨ b' = b) wr) hKl (.cells #[.int .i64 y, .int .u64 ((word s.testBit 0 : Nat) : Int), .int .u64 ((word s.testBit 1 : Nat) : Int), .int .u64 ((word s.testBit 2 : Nat) : Int), .int .u64 ((word s.testBit 3 : Nat) : Int), .int .i64 x] 73)) hgrowq (two_of (Q := fun b => b < _ ∧ some b ≠ u.ownBlock) ⟨by simp; omega, Hnx.out⟩ ⟨by simp; omega, Hnb.out⟩))
            have Hgrow := Lib.hid hgrowq
            have Hown := Lib.hid hownq
            clear hG1 hgrowq hownq hatq
            refine hK.out _ _ HKG.out (fun _ => ?_)
            clear hK K
            try simp only [Act.put, List.getElem_toArray, List.getElem_cons_zero, List.getElem_cons_succ, List.setIfInBounds_toArray, List.set_cons_zero, List.set_cons_succ]
            refine wpAnyH_take (i := 23) (oi := _) (v := ?_) rfl (by kernel_rfl) (by kernel_rfl) (by kernel_rfl) (fun _ _ _ h => h) (Or.inl ⟨by kernel_rfl, ?_⟩) (by assumption) ?_
            rotate_left
            · intro w hSw
              try dsimp only at hSw
              go_simp
              try (with_reducible rfl)
            try simp only [Act.put, List.getElem_toArray, List.getElem_cons_zero, List.getElem_cons_succ, List.setIfInBounds_toArray, List.set_cons_zero, List.set_cons_succ]
            refine wpAnyH_ready (rs := [24]) (by kernel_rfl) (by simp) ?_
            refine AllReadyH.cons (o := _) rfl (fun K hK => ?_) AllReadyH.nil
            go_simp
            refine hK.out _ _ (KeepP.set HKG.out (p := ⟨gm, 3, none⟩) (two_of (Q := fun b => b ≠ gm) HW.out.ne.1 (fun e => by have := HW.out.lo.2.1; rw [← e] at this; have := hbw; omega)) _) (fun _ => ?_)
            clear hK K
            try simp only [Act.put, List.getElem_toArray, List.getElem_cons_zero, List.getElem_cons_succ, List.setIfInBounds_toArray, List.set_cons_zero, List.set_cons_succ]
            refine wpAnyH_done (by kernel_rfl) ?_ _
            have HW2 := Lib.hid (HW.out.edge (p := (y, s, x)) HaB.out Hgrow.out Hown.out)
            clear HW HaB Hgrow Hown HKG
            go_wp2
            go_light
            go_roundw
            case rel => exact ⟨k + 1, _, by go_num, by omega, by rw [HTk.out]; exact HW2⟩
            case measure => simp [intOf]; omega
        · obtain rfl : k = E.length := by omega
          have hdl : ¬ ((E.length : Int) < (E.length : Int)) := by omega
          rw [List.take_length] at HW
          go_wp2
          clear x3 m3 hlx hlm hlt hdl hk
          have HW1 := Lib.hid (show (MW w wr w.heap.size (w.heap.size + 1) gm base #[.int .i64 (C.length : Int), .int .i64 (start : Int), .slice A1 L.length k1, .slice A2 E.length k2, .slice A3 C.length k3] #[.int .i64 0, .int .i64 0, .slice none 0 0, .slice none 0 0, .slice none 0 0] ((C.length : Int) + 1) (C.length : Int) (L.map flipL ++ markTo (NfaV.mk (C.length : Int) (start : Int) L E C) label (min 0 C.length)) (E.map flipE) uL u (.slice none 0 0)) from by rw [Nat.zero_min, show markTo (NfaV.mk (C.length : Int) (start : Int) L E C) label 0 = [] from rfl, List.append_nil]; exact HW.out)
          generalize u = uE at *
          clear HW
          go_loopw [9, 10] (fun i av wr => ∃ (k : Nat) (uA uL : Value), i = .int .i64 (k : Int) ∧ k ≤ C.length + 1 ∧ Hid (MW w wr w.heap.size (w.heap.size + 1) gm base #[.int .i64 (C.length : Int), .int .i64 (start : Int), .slice A1 L.length k1, .slice A2 E.length k2, .slice A3 C.length k3] #[.int .i64 0, .int .i64 0, .slice none 0 0, .slice none 0 0, .slice none 0 0] ((C.length : Int) + 1) (C.length : Int) (L.map flipL ++ markTo (NfaV.mk (C.length : Int) (start : Int) L E C) label (min k C.length)) (E.map flipE) uL uE uA) ∧ Hid (wr.ownsRow base 3 1 uA k (intsI (markA start k)))) (fun i _ _ => C.length + 1 - (intOf i).toNat)
          case atStart => exact ⟨0, _, _, rfl, Nat.zero_le _, HW1, Lib.hid (World.ownsRow_nil _ _ _ _)⟩
          case round =>
            clear HW1
            obtain ⟨k, uA, uL, rfl, hk, HW, HR⟩ := hrel
            have x0 := HW.out.x.cell 0
            simp only [List.getElem?_toArray, List.getElem?_cons_zero, List.getElem?_cons_succ] at x0
            have hlx := HW.out.x.lt
            by_cases hlt : k ≤ C.length
            · have hdl : (k : Int) ≤ (C.length : Int) := by omega
              obtain ⟨q0, hq, hq0, hq1, hq2⟩ := info_parts info_intN
              obtain ⟨j0, hj0, hy0, hy1, hy2⟩ := info_parts info_linkN
              have x1 := HW.out.x.cell 1
              have m4 := HW.out.m.cell 4
              simp only [List.getElem?_toArray, List.getElem?_cons_zero, List.getElem?_cons_succ] at x1 m4
              have hlm := HW.out.m.lt
              have h63 : k + 1 ≤ maxLen := Nat.le_trans (by omega) (show 2000000 ≤ maxLen by decide)
              have hby : (k + 1) * 8 ≤ 140737488355328 := by omega
              have hsz : base ≤ wr.heap.size := HW.out.sz
              have Hnm := Lib.hid (blk_not_row HW.out.m (by decide) HR.out)
              by_cases hst : k = start
              · have hst1 : ((k : Int) == (start : Int)) = true := by rw [beq_iff_eq]; omega
                have HTa := Lib.hid (show intsI (markA start (k + 1)) = intsI (markA start k) ++ [.int .i64 1] by rw [markA_succ, if_pos hst, intsI_snoc])
                clear hst
                go_upto_region 23 with (at_builtin; refine wpList_append_lies _ rfl _ _ 24 rfl base 3 q0 _ 1 8 Tryz.underlying24 hq hq0 hq1 hq2 rfl (by decide) uA k (intsI (markA start k)) rfl (HR.out.alloc _) ⟨wr.heap.size, 0, none⟩ 1 1 [.int .i64 1] rfl rfl (World.news_of_block (Blk.new_at (cs := #[.int .i64 1]) (t := 3) (by simp))) (by simp [Value.oneCell']) (by decide) h63 hby (by simp; omega) (wr.heap.size + 1) (by simp) ?_; intro gg capg wq hownq hgrowq hatq hgq; have hmq := grown_blk HW.out.m ((Below.refl _ _).alloc (Nat.le_refl _) _) hgrowq Hnm.out; have e4 := hmq.cell 4; have f4 := hmq.frozen 4; simp only [List.getElem?_toArray, List.getElem?_cons_zero, List.getElem?_cons_succ] at e4; have HWA := Lib.hid (HW.out.acc HR.out ((Below.refl _ _).alloc (Nat.le_refl _) _) hgrowq hownq); clear hmq hownq hgrowq hatq)
                rw [← HTa.out] at HWA
                generalize Value.slice (some ⟨gg, 0, none⟩) (k + 1) capg = uB at *
                generalize wq.setCell ⟨gm, 4, none⟩ uB = wa at *
                clear e4 f4 x0 x1 m4 HW HR hlx hlm Hnm HTa h63 hby hsz
                have x0 := HWA.out.1.x.cell 0
                have x4 := HWA.out.1.x.cell 4
                have m2 := HWA.out.1.m.cell 2
                simp only [List.getElem?_toArray, List.getElem?_cons_zero, List.getElem?_cons_succ] at x0 x4 m2
                have hlx := HWA.out.1.x.lt
                have hlm := HWA.out.1.m.lt
                by_cases hkn : k < C.length
                · obtain ⟨c, hc⟩ : ∃ c, C[k]? = some c := ⟨_, List.getElem?_eq_getElem hkn⟩
                  obtain ⟨b, o, rfl, v0⟩ := HN0.out.a k c hc
                  have hbw : b < w.heap.size := World.block_lt_of_cell? w _ v0
                  have c0 := (HWA.out.1.b.cell (p := ⟨b, _, none⟩) hbw).trans v0
                  have hlb : b < wa.heap.size := Nat.lt_of_lt_of_le hbw HWA.out.1.b.size
                  have hdn : decide ((k : Int) < (C.length : Int)) = true := by simp; omega
                  have HTk := Lib.hid (markTo_succ (N := (NfaV.mk (C.length : Int) (start : Int) L E C)) (label := label) (k := k) hc)
                  have hmk := markTo_len (NfaV.mk (C.length : Int) (start : Int) L E C) label k
                  have hlen : (L.map flipL ++ markTo (NfaV.mk (C.length : Int) (start : Int) L E C) label k).length ≤ 1048576 + 65535 := by rw [List.length_append, List.length_map]; omega
                  rw [show min k C.length = k by omega] at HWA
                  have HMin := Lib.hid (show min (k + 1) C.length = k + 1 by omega)
                  clear v0 hc hmk
                  by_cases hcl : c = label
                  · subst hcl
                    rw [if_pos rfl] at HTk
                    have HLk := Lib.hid (show L.map flipL ++ markTo (NfaV.mk (C.length : Int) (start : Int) L E C) c (k + 1) = L.map flipL ++ markTo (NfaV.mk (C.length : Int) (start : Int) L E C) c k ++ [((C.length : Int), (k : Int))] by rw [HTk.out, List.append_assoc])
                    clear HTk
                    generalize L.map flipL ++ markTo (NfaV.mk (C.length : Int) (start : Int) L E C) c k = Lk at *
                    have h63 : Lk.length + 1 ≤ maxLen := Nat.le_trans (by omega) (show 2000000 ≤ maxLen by decide)
                    have hby : (Lk.length + 1) * 16 ≤ 140737488355328 := by omega
                    have hsz : base ≤ wa.heap.size := HWA.out.1.sz
                    have Hne := Lib.hid (blk_not_row HWA.out.1.m (by decide) HWA.out.1.l)
                    have Hne2 := Lib.hid (blk_not_row HWA.out.1.m (by decide) HWA.out.2)
                    go_wp2_with (at_builtin; refine wpList_append_lies _ rfl _ _ 22 rfl base 69 j0 _ 2 16 Tryz.underlying22 hj0 hy0 hy1 hy2 rfl (by decide) uL Lk.length (linksI Lk) rfl (HWA.out.1.l.alloc _) ⟨wa.heap.size, 0, none⟩ 1 1 (linkI ((C.length : Int), (k : Int))) rfl rfl (World.news_of_block (Blk.new_at (cs := #[.int .i64 (C.length : Int), .int .i64 (k : Int)]) (t := 69) (by simp))) (by simp [Value.oneCell', linkI]) (by decide) h63 hby (by simp; omega) (wa.heap.size + 1) (by simp) ?_; intro gg2 capg2 wq2 hownq hgrowq hatq hgq; have hmq := grown_blk HWA.out.1.m ((Below.refl _ _).alloc (Nat.le_refl _) _) hgrowq Hne.out; have mq2 := hmq.cell 2; have fq2 := hmq.frozen 2; simp only [List.getElem?_toArray, List.getElem?_cons_zero, List.getElem?_cons_succ] at mq2; have HW2 := Lib.hid (HWA.out.1.link ((Below.refl _ _).alloc (Nat.le_refl _) _) hgrowq hownq); have HR2 := Lib.hid ((kept_by (gm := gm) (i := 2) (q := .slice (some ⟨gg2, 0, none⟩) (Lk.length + 1) capg2) ((Below.refl _ _).alloc (Nat.le_refl _) _) hgrowq).row HWA.out.2 (fun b hb => rows_apart HWA.out.2 HWA.out.1.l (by decide) hb) Hne2.out); clear hmq hownq hgrowq hatq)
                    go_light
                    go_roundw
                    case rel => exact ⟨k + 1, _, _, by go_num, by omega, by rw [HMin.out, HLk.out]; exact HW2, HR2⟩
                    case measure => simp [intOf]; omega
                  · have hne : (c == label) = false := by simpa using hcl
                    rw [if_neg hcl, List.append_nil] at HTk
                    rw [← HTk.out] at HWA
                    clear hcl HTk
                    go_wp2
                    go_light
                    go_roundw
                    case rel => exact ⟨k + 1, _, _, by go_num, by omega, by rw [HMin.out]; exact Lib.hid HWA.out.1, Lib.hid HWA.out.2⟩
                    case measure => simp [intOf]; omega
                · obtain rfl : k = C.length := by omega
                  have hdn : decide ((C.length : Int) < (C.length : Int)) = false := by simp
                  rw [show min C.length C.length = min (C.length + 1) C.length by omega] at HWA
                  go_wp2
                  go_light
                  go_roundw
                  case rel => exact ⟨C.length + 1, _, _, by go_num, by omega, Lib.hid HWA.out.1, Lib.hid HWA.out.2⟩
                  case measure => simp [intOf]
              · have hst1 : ((k : Int) == (start : Int)) = false := by rw [beq_eq_false_iff_ne]; omega
                have HTa := Lib.hid (show intsI (markA start (k + 1)) = intsI (markA start k) ++ [.int .i64 0] by rw [markA_succ, if_neg hst, intsI_snoc])
                clear hst
                go_upto_region 23 with (at_builtin; refine wpList_append_lies _ rfl _ _ 24 rfl base 3 q0 _ 1 8 Tryz.underlying24 hq hq0 hq1 hq2 rfl (by decide) uA k (intsI (markA start k)) rfl (HR.out.alloc _) ⟨wr.heap.size, 0, none⟩ 1 1 [.int .i64 0] rfl rfl (World.news_of_block (Blk.new_at (cs := #[.int .i64 0]) (t := 3) (by simp))) (by simp [Value.oneCell']) (by decide) h63 hby (by simp; omega) (wr.heap.size + 1) (by simp) ?_; intro gg capg wq hownq hgrowq hatq hgq; have hmq := grown_blk HW.out.m ((Below.refl _ _).alloc (Nat.le_refl _) _) hgrowq Hnm.out; have e4 := hmq.cell 4; have f4 := hmq.frozen 4; simp only [List.getElem?_toArray, List.getElem?_cons_zero, List.getElem?_cons_succ] at e4; have HWA := Lib.hid (HW.out.acc HR.out ((Below.refl _ _).alloc (Nat.le_refl _) _) hgrowq hownq); clear hmq hownq hgrowq hatq)
                rw [← HTa.out] at HWA
                generalize Value.slice (some ⟨gg, 0, none⟩) (k + 1) capg = uB at *
                generalize wq.setCell ⟨gm, 4, none⟩ uB = wa at *
                clear e4 f4 x0 x1 m4 HW HR hlx hlm Hnm HTa h63 hby hsz
                have x0 := HWA.out.1.x.cell 0
                have x4 := HWA.out.1.x.cell 4
                have m2 := HWA.out.1.m.cell 2
                simp only [List.getElem?_toArray, List.getElem?_cons_zero, List.getElem?_cons_succ] at x0 x4 m2
                have hlx := HWA.out.1.x.lt
                have hlm := HWA.out.1.m.lt
                by_cases hkn : k < C.length
                · obtain ⟨c, hc⟩ : ∃ c, C[k]? = some c := ⟨_, List.getElem?_eq_getElem hkn⟩
                  obtain ⟨b, o, rfl, v0⟩ := HN0.out.a k c hc
                  have hbw : b < w.heap.size := World.block_lt_of_cell? w _ v0
                  have c0 := (HWA.out.1.b.cell (p := ⟨b, _, none⟩) hbw).trans v0
                  have hlb : b < wa.heap.size := Nat.lt_of_lt_of_le hbw HWA.out.1.b.size
                  have hdn : decide ((k : Int) < (C.length : Int)) = true := by simp; omega
                  have HTk := Lib.hid (markTo_succ (N := (NfaV.mk (C.length : Int) (start : Int) L E C)) (label := label) (k := k) hc)
                  have hmk := markTo_len (NfaV.mk (C.length : Int) (start : Int) L E C) label k
                  have hlen : (L.map flipL ++ markTo (NfaV.mk (C.length : Int) (start : Int) L E C) label k).length ≤ 1048576 + 65535 := by rw [List.length_append, List.length_map]; omega
                  rw [show min k C.length = k by omega] at HWA
                  have HMin := Lib.hid (show min (k + 1) C.length = k + 1 by omega)
                  clear v0 hc hmk
                  by_cases hcl : c = label
                  · subst hcl
                    rw [if_pos rfl] at HTk
                    have HLk := Lib.hid (show L.map flipL ++ markTo (NfaV.mk (C.length : Int) (start : Int) L E C) c (k + 1) = L.map flipL ++ markTo (NfaV.mk (C.length : Int) (start : Int) L E C) c k ++ [((C.length : Int), (k : Int))] by rw [HTk.out, List.append_assoc])
                    clear HTk
                    generalize L.map flipL ++ markTo (NfaV.mk (C.length : Int) (start : Int) L E C) c k = Lk at *
                    have h63 : Lk.length + 1 ≤ maxLen := Nat.le_trans (by omega) (show 2000000 ≤ maxLen by decide)
                    have hby : (Lk.length + 1) * 16 ≤ 140737488355328 := by omega
                    have hsz : base ≤ wa.heap.size := HWA.out.1.sz
                    have Hne := Lib.hid (blk_not_row HWA.out.1.m (by decide) HWA.out.1.l)
                    have Hne2 := Lib.hid (blk_not_row HWA.out.1.m (by decide) HWA.out.2)
                    go_wp2_with (at_builtin; refine wpList_append_lies _ rfl _ _ 22 rfl base 69 j0 _ 2 16 Tryz.underlying22 hj0 hy0 hy1 hy2 rfl (by decide) uL Lk.length (linksI Lk) rfl (HWA.out.1.l.alloc _) ⟨wa.heap.size, 0, none⟩ 1 1 (linkI ((C.length : Int), (k : Int))) rfl rfl (World.news_of_block (Blk.new_at (cs := #[.int .i64 (C.length : Int), .int .i64 (k : Int)]) (t := 69) (by simp))) (by simp [Value.oneCell', linkI]) (by decide) h63 hby (by simp; omega) (wa.heap.size + 1) (by simp) ?_; intro gg2 capg2 wq2 hownq hgrowq hatq hgq; have hmq := grown_blk HWA.out.1.m ((Below.refl _ _).alloc (Nat.le_refl _) _) hgrowq Hne.out; have mq2 := hmq.cell 2; have fq2 := hmq.frozen 2; simp only [List.getElem?_toArray, List.getElem?_cons_zero, List.getElem?_cons_succ] at mq2; have HW2 := Lib.hid (HWA.out.1.link ((Below.refl _ _).alloc (Nat.le_refl _) _) hgrowq hownq); have HR2 := Lib.hid ((kept_by (gm := gm) (i := 2) (q := .slice (some ⟨gg2, 0, none⟩) (Lk.length + 1) capg2) ((Below.refl _ _).alloc (Nat.le_refl _) _) hgrowq).row HWA.out.2 (fun b hb => rows_apart HWA.out.2 HWA.out.1.l (by decide) hb) Hne2.out); clear hmq hownq hgrowq hatq)
                    go_light
                    go_roundw
                    case rel => exact ⟨k + 1, _, _, by go_num, by omega, by rw [HMin.out, HLk.out]; exact HW2, HR2⟩
                    case measure => simp [intOf]; omega
                  · have hne : (c == label) = false := by simpa using hcl
                    rw [if_neg hcl, List.append_nil] at HTk
                    rw [← HTk.out] at HWA
                    clear hcl HTk
                    go_wp2
                    go_light
                    go_roundw
                    case rel => exact ⟨k + 1, _, _, by go_num, by omega, by rw [HMin.out]; exact Lib.hid HWA.out.1, Lib.hid HWA.out.2⟩
                    case measure => simp [intOf]; omega
                · obtain rfl : k = C.length := by omega
                  have hdn : decide ((C.length : Int) < (C.length : Int)) = false := by simp
                  rw [show min C.length C.length = min (C.length + 1) C.length by omega] at HWA
                  go_wp2
                  go_light
                  go_roundw
                  case rel => exact ⟨C.length + 1, _, _, by go_num, by omega, Lib.hid HWA.out.1, Lib.hid HWA.out.2⟩
                  case measure => simp [intOf]
            · obtain rfl : k = C.length + 1 := by omega
              have hdl : ¬ (((C.length + 1 : Nat) : Int) ≤ (C.length : Int)) := by omega
              rw [show min (C.length + 1) C.length = C.length by omega] at HW
              obtain ⟨Lk, hLk⟩ : ∃ Lk, L.map flipL ++ markTo (NfaV.mk (C.length : Int) (start : Int) L E C) label C.length = Lk := ⟨_, rfl⟩
              have hml := markTo_len (NfaV.mk (C.length : Int) (start : Int) L E C) label C.length
              have hll : Lk.length ≤ 140737488355328 := by rw [← hLk, List.length_append, List.length_map]; omega
              rw [hLk] at HW
              have HLk := Lib.hid hLk
              clear hLk hml x0
              have HL := Lib.hid HW.out.l
              have HE := Lib.hid HW.out.e
              obtain ⟨D0, d0, rfl⟩ := own_slice HL.out
              obtain ⟨D2, d2, rfl⟩ := own_slice HE.out
              obtain ⟨D4, d4, rfl⟩ := own_slice HR.out
              obtain ⟨Ek, hEk⟩ : ∃ Ek, E.map flipE = Ek := ⟨_, rfl⟩
              have HEk := Lib.hid hEk
              have hel : Ek.length ≤ 140737488355328 := by rw [← hEk, List.length_map]; omega
              rw [hEk] at HW HE
              clear hEk
              have hm0 := HW.out.m
              have hz0' := HW.out.z
              have m0 := hm0.cell 0
              have m1 := hm0.cell 1
              have m2 := hm0.cell 2
              have m3 := hm0.cell 3
              have m4 := hm0.cell 4
              have z0 := hz0'.cell 0
              have z1 := hz0'.cell 1
              have z2 := hz0'.cell 2
              have z3 := hz0'.cell 3
              have z4 := hz0'.cell 4
              have f0 := hz0'.frozen 0
              have f1 := hz0'.frozen 1
              have f2 := hz0'.frozen 2
              have f3 := hz0'.frozen 3
              have f4 := hz0'.frozen 4
              have x0 := HW.out.x.cell 0
              have g5 := HW.out.ne.2
              have hlm := hm0.lt
              have hlz := hz0'.lt
              simp only [List.getElem?_toArray, List.getElem?_cons_zero, List.getElem?_cons_succ] at m0 m1 m2 m3 m4 z0 z1 z2 z3 z4 x0
              clear hm0 hz0'
              have HX5 := Lib.hid ((((((HW.out.z.set_ 0 (.int .i64 ((C.length : Int) + 1))).set_ 1 (.int .i64 (C.length : Int))).set_ 2 (.slice D0 Lk.length d0)).set_ 3 (.slice D2 Ek.length d2)).set_ 4 (.slice D4 (C.length + 1) d4)))
              have nz := blk_not_row HW.out.z (by decide) HL.out
              have nz2 := blk_not_row HW.out.z (by decide) HE.out
              have nz4 := blk_not_row HW.out.z (by decide) HR.out
              have HLE := Lib.hid (own_set (o := 4) (u := .slice D4 (C.length + 1) d4) (own_set (o := 3) (u := .slice D2 Ek.length d2) (own_set (o := 2) (u := .slice D0 Lk.length d0) (own_set (o := 1) (u := .int .i64 (C.length : Int)) (own_set (o := 0) (u := .int .i64 ((C.length : Int) + 1)) HL.out nz) nz) nz) nz) nz)
              have HEE := Lib.hid (own_set (o := 4) (u := .slice D4 (C.length + 1) d4) (own_set (o := 3) (u := .slice D2 Ek.length d2) (own_set (o := 2) (u := .slice D0 Lk.length d0) (own_set (o := 1) (u := .int .i64 (C.length : Int)) (own_set (o := 0) (u := .int .i64 ((C.length : Int) + 1)) HE.out nz2) nz2) nz2) nz2) nz2)
              have HAE := Lib.hid (own_set (o := 4) (u := .slice D4 (C.length + 1) d4) (own_set (o := 3) (u := .slice D2 Ek.length d2) (own_set (o := 2) (u := .slice D0 Lk.length d0) (own_set (o := 1) (u := .int .i64 (C.length : Int)) (own_set (o := 0) (u := .int .i64 ((C.length : Int) + 1)) HR.out nz4) nz4) nz4) nz4) nz4)
              have HBE := Lib.hid (((((HW.out.b.setCell (p := ⟨w.heap.size + 1, 0, none⟩) (Nat.le_succ _) (.int .i64 ((C.length : Int) + 1))).setCell (p := ⟨w.heap.size + 1, 1, none⟩) (Nat.le_succ _) (.int .i64 (C.length : Int))).setCell (p := ⟨w.heap.size + 1, 2, none⟩) (Nat.le_succ _) (.slice D0 Lk.length d0)).setCell (p := ⟨w.heap.size + 1, 3, none⟩) (Nat.le_succ _) (.slice D2 Ek.length d2)).setCell (p := ⟨w.heap.size + 1, 4, none⟩) (Nat.le_succ _) (.slice D4 (C.length + 1) d4))
              clear nz nz2 nz4
              go_wp2
              refine bodyPost_ret (ret_nfa18 Tryz.results11 rfl rfl HX5.out) rfl ⟨D0, d0, D2, d2, D4, ⟨d4, ?_⟩, ⟨by show LinksAt _ _ (L.map flipL ++ markTo (NfaV.mk (C.length : Int) (start : Int) L E C) label C.length); rw [HLk.out]; exact own_linksAt HLE.out, by show EdgesAt _ _ (E.map flipE); rw [HEk.out]; exact own_edgesAt HEE.out, ?_, ?_, ?_, ?_⟩, HBE.out⟩
              · have e := HLk.out
                have e2 := HEk.out
                subst e e2
                unfold nfA mirV
                simp only [List.length_map, List.length_set, List.length_replicate]
                rfl
              · show IntsAt _ _ ((List.replicate ((C.length : Int).toNat + 1) 0).set (start : Int).toNat 1)
                rw [Int.toNat_natCast, Int.toNat_natCast, ← markA_all]
                refine own_intsAt (base := base) (n := C.length + 1) (k := d4) ?_
                rw [markA_len]
                exact HAE.out
              · show (L.map flipL ++ markTo (NfaV.mk (C.length : Int) (start : Int) L E C) label C.length).length ≤ _
                rw [HLk.out]
                exact hll
              · show (E.map flipE).length ≤ _
                rw [HEk.out]
                exact hel
              · show ((List.replicate (((C.length : Int)).toNat + 1) (0 : Int)).set _ 1).length ≤ _
                rw [List.length_set, List.length_replicate]
                omega
end Go.Proofs.YtffkppoidollnaaGreatDoor
