/-
  The contract of the reference's Write of chapter 08.
-/
import Derived.Test.YtchfipjclbpomaaGreatDoorQShowA
import Derived.Test.YtchfipjclbpomaaGreatDoorQShowG
namespace Go.Proofs.YtchfipjclbpomaaGreatDoor
open Go.RowKit
set_option linter.unusedSimpArgs false
set_option linter.unusedVariables false
set_option maxRecDepth 100000

theorem step_append_by {ops : Array Oper} {o : Oper} {a : Act} {w : World} {K : Act → World → Prop} {Q : Exit → Act → World → Prop} {E : Prop} (hgd : o.guard = none) (sl x : Operand) (t u : TypeId)
    (ho : o.op = .call { callee := .builtin .append, args := #[sl, x], argTypes := #[t, u] }) (v1 v2 v' : Value) (w' : World) (hs : a.eval sl = v1) (hx : a.eval x = v2)
    (hr : (Builtin.append_ #[t, u] o.type #[v1, v2]).run Tryz.prog w = .ok v' w')
    (h : K (a.put o.dst v') w') : if Region.wanted o (yielded ops a.tmps) = true then Oper.wp Tryz.prog o a w K Q else E := by
  have hw : Region.wanted o (yielded ops a.tmps) = true := by simp [Region.wanted, hgd]
  rw [if_pos hw]
  exact wp_append_by sl x t u ho v1 v2 v' w' hs hx hr h
set_option maxHeartbeats 2000000 in
theorem rwrite_leaf1 (x : Nd) (hK : ∀ z ∈ x.kids.list, RWriteC z) (P : Nat → Prop) (B : Option Addr) (cap : Nat) (w : World) (ht : TreesAt w P x.kids B) (hl : x.write.length ≤ 40000000) (hkl : x.kids.len ≤ 140737488355328) (hk : x.kind = 1) : Calls Tryz.prog 19 #[ndV x B cap] w (RowOut x.write w) := by
  rw [Nd.write_leaf (.inl hk)] at hl ⊢
  have HB := Lib.hid ((((Below.refl w.heap.size w).alloc (Nat.le_refl _) (.cells #[.int .i64 1, .int .u64 ((word (x.set.testBit) 0 : Nat) : Int), .int .u64 ((word (x.set.testBit) 1 : Nat) : Int), .int .u64 ((word (x.set.testBit) 2 : Nat) : Int), .int .u64 ((word (x.set.testBit) 3 : Nat) : Int), .slice B x.kids.len cap, .int .i64 x.lo, .int .i64 x.hi] 28)).alloc (by simp) (.cells #[] 58)).alloc (by simp; omega) (.cells (lexCell ⟨1, 0, x.set.testBit, 0, 0⟩).toArray 58))
  have HR := Lib.hid ((row_new ((w.alloc (.cells #[.int .i64 1, .int .u64 ((word (x.set.testBit) 0 : Nat) : Int), .int .u64 ((word (x.set.testBit) 1 : Nat) : Int), .int .u64 ((word (x.set.testBit) 2 : Nat) : Int), .int .u64 ((word (x.set.testBit) 3 : Nat) : Int), .slice B x.kids.len cap, .int .i64 x.lo, .int .i64 x.hi] 28)).alloc (.cells #[] 58)) ⟨1, 0, x.set.testBit, 0, 0⟩).mono (base' := w.heap.size) (by simp; omega))
  have hsz : ((w.alloc (.cells #[.int .i64 1, .int .u64 ((word (x.set.testBit) 0 : Nat) : Int), .int .u64 ((word (x.set.testBit) 1 : Nat) : Int), .int .u64 ((word (x.set.testBit) 2 : Nat) : Int), .int .u64 ((word (x.set.testBit) 3 : Nat) : Int), .slice B x.kids.len cap, .int .i64 x.lo, .int .i64 x.hi] 28)).alloc (.cells #[] 58)).heap.size = w.heap.size + 1 + 1 := by simp
  rw [hsz] at HR
  unfold ndV
  rw [hk]
  clear ht hK hsz
  go_enter Tryz.func19, Tryz.ntmps19
  go_wp2
  go_light
  go_ret
  exact ⟨_, rfl, HB.out, HR.out⟩
set_option maxHeartbeats 2000000 in
theorem rwrite_leaf3 (x : Nd) (hK : ∀ z ∈ x.kids.list, RWriteC z) (P : Nat → Prop) (B : Option Addr) (cap : Nat) (w : World) (ht : TreesAt w P x.kids B) (hl : x.write.length ≤ 40000000) (hkl : x.kids.len ≤ 140737488355328) (hk : x.kind = 3) : Calls Tryz.prog 19 #[ndV x B cap] w (RowOut x.write w) := by
  rw [Nd.write_leaf (.inr hk)] at hl ⊢
  have HB := Lib.hid ((((Below.refl w.heap.size w).alloc (Nat.le_refl _) (.cells #[.int .i64 3, .int .u64 ((word (x.set.testBit) 0 : Nat) : Int), .int .u64 ((word (x.set.testBit) 1 : Nat) : Int), .int .u64 ((word (x.set.testBit) 2 : Nat) : Int), .int .u64 ((word (x.set.testBit) 3 : Nat) : Int), .slice B x.kids.len cap, .int .i64 x.lo, .int .i64 x.hi] 28)).alloc (by simp) (.cells #[] 58)).alloc (by simp; omega) (.cells (lexCell ⟨1, 0, x.set.testBit, 0, 0⟩).toArray 58))
  have HR := Lib.hid ((row_new ((w.alloc (.cells #[.int .i64 3, .int .u64 ((word (x.set.testBit) 0 : Nat) : Int), .int .u64 ((word (x.set.testBit) 1 : Nat) : Int), .int .u64 ((word (x.set.testBit) 2 : Nat) : Int), .int .u64 ((word (x.set.testBit) 3 : Nat) : Int), .slice B x.kids.len cap, .int .i64 x.lo, .int .i64 x.hi] 28)).alloc (.cells #[] 58)) ⟨1, 0, x.set.testBit, 0, 0⟩).mono (base' := w.heap.size) (by simp; omega))
  have hsz : ((w.alloc (.cells #[.int .i64 3, .int .u64 ((word (x.set.testBit) 0 : Nat) : Int), .int .u64 ((word (x.set.testBit) 1 : Nat) : Int), .int .u64 ((word (x.set.testBit) 2 : Nat) : Int), .int .u64 ((word (x.set.testBit) 3 : Nat) : Int), .slice B x.kids.len cap, .int .i64 x.lo, .int .i64 x.hi] 28)).alloc (.cells #[] 58)).heap.size = w.heap.size + 1 + 1 := by simp
  rw [hsz] at HR
  unfold ndV
  rw [hk]
  clear ht hK hsz
  go_enter Tryz.func19, Tryz.ntmps19
  go_wp2
  go_light
  go_ret
  exact ⟨_, rfl, HB.out, HR.out⟩
theorem row_zero (w : World) (base : Nat) (h : base ≤ w.heap.size) : (w.alloc (.cells #[] 58)).ownsRow base 58 8 (.slice (some ⟨w.heap.size, 0, none⟩) 0 0) ([] : List Lex).length (lexCells []) :=
  ⟨rfl, .inr ⟨w.heap.size, 0, #[], rfl, h, heap_alloc_new w _, Nat.le_refl _, Nat.zero_le _, rfl, rfl⟩⟩
set_option maxHeartbeats 2000000 in
theorem rwrite_empty (x : Nd) (hK : ∀ z ∈ x.kids.list, RWriteC z) (P : Nat → Prop) (B : Option Addr) (cap : Nat) (w : World) (ht : TreesAt w P x.kids B) (hl : x.write.length ≤ 40000000) (hkl : x.kids.len ≤ 140737488355328) (hk : x.kind = 2) : Calls Tryz.prog 19 #[ndV x B cap] w (RowOut x.write w) := by
  rw [Nd.write_empty hk] at hl ⊢
  have HB := Lib.hid (((Below.refl w.heap.size w).alloc (Nat.le_refl _) (.cells #[.int .i64 2, .int .u64 ((word (x.set.testBit) 0 : Nat) : Int), .int .u64 ((word (x.set.testBit) 1 : Nat) : Int), .int .u64 ((word (x.set.testBit) 2 : Nat) : Int), .int .u64 ((word (x.set.testBit) 3 : Nat) : Int), .slice B x.kids.len cap, .int .i64 x.lo, .int .i64 x.hi] 28)).alloc (by simp) (.cells #[] 58))
  have HR := Lib.hid (row_zero (w.alloc (.cells #[.int .i64 2, .int .u64 ((word (x.set.testBit) 0 : Nat) : Int), .int .u64 ((word (x.set.testBit) 1 : Nat) : Int), .int .u64 ((word (x.set.testBit) 2 : Nat) : Int), .int .u64 ((word (x.set.testBit) 3 : Nat) : Int), .slice B x.kids.len cap, .int .i64 x.lo, .int .i64 x.hi] 28)) w.heap.size (by simp))
  rw [World.size_alloc] at HR
  unfold ndV
  rw [hk]
  clear ht hK
  go_enter Tryz.func19, Tryz.ntmps19
  go_wp2
  go_light
  go_ret
  exact ⟨_, rfl, HB.out, HR.out⟩
/-- The frame of the loop: the node's box, the row that was made. -/
def BFr (w : World) (nd : Array Value) (L : List Lex) (v : Value) (wr : World) : Prop := Blk wr w.heap.size 28 nd ∧ Below w.heap.size w wr ∧ wr.ownsRow w.heap.size 58 8 v L.length (lexCells L)
theorem BFr.start (w : World) (nd : Array Value) : BFr w nd [] (.slice (some ⟨w.heap.size + 1, 0, none⟩) 0 0) ((w.alloc (.cells nd 28)).alloc (.cells #[] 58)) := by
  refine ⟨(Blk.new w _ _).alloc _, ((Below.refl _ _).alloc (Nat.le_refl _) _).alloc (by simp) _, ?_⟩
  have h := row_zero (w.alloc (.cells nd 28)) w.heap.size (by simp)
  rw [World.size_alloc] at h
  exact h
/-- A row more behind the row that was made. -/
theorem BFr.app {w w1 w2 w3 : World} {nd : Array Value} {L M : List Lex} {v v' v2 : Value} {base2 : Nat} (h : BFr w nd L v w1) (hB : Below w1.heap.size w1 w2) (h2 : w2.ownsRow base2 58 8 v2 M.length (lexCells M)) (h3 : w3.ownsRow w.heap.size 58 8 v' (L ++ M).length (lexCells (L ++ M))) (hg : w2.grownBy w3 v.ownBlock) : BFr w nd (L ++ M) v' w3 := by
  have hne := blk_not_row h.1 (by decide) h.2.2
  have hB2 := h.2.1.trans (hB.mono h.2.1.size)
  exact ⟨(h.1.below hB h.1.lt).grown hg hne, grown_since hB2 (own_below h.2.2 hB) hg, h3⟩
set_option maxHeartbeats 4000000 in
theorem rwrite_cat (x : Nd) (hK : ∀ z ∈ x.kids.list, RWriteC z) (P : Nat → Prop) (B : Option Addr) (cap : Nat) (w : World) (ht : TreesAt w P x.kids B) (hl : x.write.length ≤ 40000000) (hkl : x.kids.len ≤ 140737488355328) (hk : x.kind = 4) : Calls Tryz.prog 19 #[ndV x B cap] w (RowOut x.write w) := by
  rw [Nd.write_cat hk] at hl ⊢
  have HM0 := Lib.hid (show BFr w #[.int .i64 4, .int .u64 ((word (x.set.testBit) 0 : Nat) : Int), .int .u64 ((word (x.set.testBit) 1 : Nat) : Int), .int .u64 ((word (x.set.testBit) 2 : Nat) : Int), .int .u64 ((word (x.set.testBit) 3 : Nat) : Int), .slice B x.kids.len cap, .int .i64 x.lo, .int .i64 x.hi] (((x.kids.writes.take 0).map (kidS 4)).flatten) _ _ from by rw [List.take_zero]; exact BFr.start w #[.int .i64 4, .int .u64 ((word (x.set.testBit) 0 : Nat) : Int), .int .u64 ((word (x.set.testBit) 1 : Nat) : Int), .int .u64 ((word (x.set.testBit) 2 : Nat) : Int), .int .u64 ((word (x.set.testBit) 3 : Nat) : Int), .slice B x.kids.len cap, .int .i64 x.lo, .int .i64 x.hi])
  have HT := Lib.hid ht
  have HK := Lib.hid hK
  unfold ndV
  rw [hk]
  clear ht hK
  go_enter Tryz.func19, Tryz.ntmps19
  go_wp2
  go_loopw [3, 4] (fun vr i' wr => ∃ k : Nat, i' = .int .i64 (k : Int) ∧ k ≤ x.kids.len ∧ Hid (BFr w #[.int .i64 4, .int .u64 ((word (x.set.testBit) 0 : Nat) : Int), .int .u64 ((word (x.set.testBit) 1 : Nat) : Int), .int .u64 ((word (x.set.testBit) 2 : Nat) : Int), .int .u64 ((word (x.set.testBit) 3 : Nat) : Int), .slice B x.kids.len cap, .int .i64 x.lo, .int .i64 x.hi] (((x.kids.writes.take k).map (kidS 4)).flatten) vr wr)) (fun _ i' _ => x.kids.len - (intOf i').toNat)
  case atStart => exact ⟨0, rfl, Nat.zero_le _, HM0⟩
  case round =>
    clear HM0
    obtain ⟨k, rfl, hk, HM⟩ := hrel
    by_cases hlt : k < x.kids.len
    · obtain ⟨z, hz⟩ : ∃ z, x.kids.list[k]? = some z := ⟨_, List.getElem?_eq_getElem (by rw [Trees.len_list]; exact hlt)⟩
      have hdl : (k : Int) < (x.kids.len : Int) := by omega
      have hsn := cat_snoc hz []
      rw [List.nil_append, List.nil_append] at hsn
      have hle : (((x.kids.writes.take k).map (kidS 4)).flatten).length + (kidS 4 (z.kind, z.write)).length ≤ 40000000 := by
        have h1 := flat_take (x.kids.writes.map (kidS 4)) (k + 1)
        rw [← List.map_take] at h1
        have h2 := congrArg List.length hsn
        rw [List.length_append] at h2
        omega
      have hlz : z.write.length ≤ 40000000 := by
        have : z.write.length ≤ (kidS 4 (z.kind, z.write)).length := by
          unfold kidS
          split
          · simp; omega
          · exact Nat.le_refl _
        omega
      have HS := Lib.hid hsn
      have hM := HM.out
      obtain ⟨b, o, C, capc, rfl, _, _, hn0, hkz0⟩ := HT.out.get hz
      have hbw : b < w.heap.size := World.block_lt_of_cell? w _ hn0.1
      have hX := hM.1
      have hBB := hM.2.1
      obtain ⟨c0, c1, c2, c3, c4, c5, c6, c7⟩ := hn0.keep (w' := (wr)) (fun o' => hBB.cell (p := ⟨b, o', none⟩) hbw)
      have HC := Lib.hid (rkid_go 4 z C capc P (wr).drew ((hkz0.below hBB).below (Below.refl _ _).drew) (HK.out z (List.mem_of_getElem? hz)) hlz)
      unfold ndV at HC
      have n0 := (hX).cell 0
      have n1 := (hX).cell 1
      have n2 := (hX).cell 2
      have n3 := (hX).cell 3
      have n4 := (hX).cell 4
      have n5 := (hX).cell 5
      have n6 := (hX).cell 6
      have n7 := (hX).cell 7
      have hlx := (hX).lt
      simp only [List.getElem?_toArray, List.getElem?_cons_zero, List.getElem?_cons_succ] at n0 n1 n2 n3 n4 n5 n6 n7

      have hlb : b < (wr).heap.size := Nat.lt_of_lt_of_le hbw hBB.size
      have hKl := two_of (Q := fun c => c < (wr).heap.size) hlx hlb
      have HF := Lib.hid hM
      have hneg := blk_not_row hX (by decide) hM.2.2
      have hneb : some b ≠ (u3).ownBlock := fun e => by have := (hM.2.2.lt b e.symm).1; omega
      have HNE := Lib.hid (two_of (Q := fun c => c < (wr).heap.size ∧ some c ≠ (u3).ownBlock) ⟨hlx, hneg⟩ ⟨hlb, hneb⟩)
      clear hn0 hkz0 hX hBB hneg hneb
      clear hM HM hz hsn hl hlz
      generalize ((x.kids.writes.take k).map (kidS 4)).flatten = Lk at *
      generalize kidS 4 (z.kind, z.write) = lz at *
      by_cases hdp : (0 : Int) < (k : Int)
      · skip
        go_upto_region 15 with fail
        refine wp_region_held_drew (S := fun w' => ∀ b' o', b' = w.heap.size ∨ b' = b → w'.cell? ⟨b', o', none⟩ = (wr).cell? ⟨b', o', none⟩) (by kernel_rfl) (KeepP.start (fun c => c = w.heap.size ∨ c = b) (wr)) (fun hHeld => ?_)
        refine wpAnyH_take (i := 0) (oi := _) (v := ?_) rfl (by kernel_rfl) (by kernel_rfl) (by kernel_rfl) (fun _ _ _ h => h) (Or.inl ⟨by kernel_rfl, ?_⟩) (by assumption) ?_
        rotate_left
        · intro w hSw
          try dsimp only at hSw
          go_simp
          try (with_reducible rfl)
        try simp only [Act.put, List.getElem_toArray, List.getElem_cons_zero, List.getElem_cons_succ, List.setIfInBounds_toArray, List.set_cons_zero, List.set_cons_succ]

        refine wpAnyH_take (i := 1) (oi := _) (v := ?_) rfl (by kernel_rfl) (by kernel_rfl) (by kernel_rfl) (fun _ _ _ h => h) (Or.inl ⟨by kernel_rfl, ?_⟩) (by assumption) ?_
        rotate_left
        · intro w hSw
          try dsimp only at hSw
          go_simp
          try (with_reducible rfl)
        try simp only [Act.put, List.getElem_toArray, List.getElem_cons_zero, List.getElem_cons_succ, List.setIfInBounds_toArray, List.set_cons_zero, List.set_cons_succ]

        refine wpAnyH_take (i := 2) (oi := _) (v := ?_) rfl (by kernel_rfl) (by kernel_rfl) (by kernel_rfl) (fun _ _ _ h => h) (Or.inl ⟨by kernel_rfl, ?_⟩) (by assumption) ?_
        rotate_left
        · intro w hSw
          try dsimp only at hSw
          go_simp
          try (with_reducible rfl)
        try simp only [Act.put, List.getElem_toArray, List.getElem_cons_zero, List.getElem_cons_succ, List.setIfInBounds_toArray, List.set_cons_zero, List.set_cons_succ]

        refine wpAnyH_take (i := 3) (oi := _) (v := ?_) rfl (by kernel_rfl) (by kernel_rfl) (by kernel_rfl) (fun _ _ _ h => h) (Or.inl ⟨by kernel_rfl, ?_⟩) (by assumption) ?_
        rotate_left
        · intro w hSw
          try dsimp only at hSw
          go_simp
          try (with_reducible rfl)
        try simp only [Act.put, List.getElem_toArray, List.getElem_cons_zero, List.getElem_cons_succ, List.setIfInBounds_toArray, List.set_cons_zero, List.set_cons_succ]

        refine wpAnyH_take (i := 4) (oi := _) (v := ?_) rfl (by kernel_rfl) (by kernel_rfl) (by kernel_rfl) (fun _ _ _ h => h) (Or.inl ⟨by kernel_rfl, ?_⟩) (by assumption) ?_
        rotate_left
        · intro w hSw
          try dsimp only at hSw
          go_simp
          try (with_reducible rfl)
        try simp only [Act.put, List.getElem_toArray, List.getElem_cons_zero, List.getElem_cons_succ, List.setIfInBounds_toArray, List.set_cons_zero, List.set_cons_succ]

        refine wpAnyH_take (i := 5) (oi := _) (v := ?_) rfl (by kernel_rfl) (by kernel_rfl) (by kernel_rfl) (fun _ _ _ h => h) (Or.inl ⟨by kernel_rfl, ?_⟩) (by assumption) ?_
        rotate_left
        · intro w hSw
          try dsimp only at hSw
          go_simp
          try (with_reducible rfl)
        try simp only [Act.put, List.getElem_toArray, List.getElem_cons_zero, List.getElem_cons_succ, List.setIfInBounds_toArray, List.set_cons_zero, List.set_cons_succ]

        refine wpAnyH_take (i := 6) (oi := _) (v := ?_) rfl (by kernel_rfl) (by kernel_rfl) (by kernel_rfl) (fun _ _ _ h => h) (Or.inl ⟨by kernel_rfl, ?_⟩) (by assumption) ?_
        rotate_left
        · intro w hSw
          try dsimp only at hSw
          go_simp
          try (with_reducible rfl)
        try simp only [Act.put, List.getElem_toArray, List.getElem_cons_zero, List.getElem_cons_succ, List.setIfInBounds_toArray, List.set_cons_zero, List.set_cons_succ]

        refine wpAnyH_take (i := 7) (oi := _) (v := ?_) rfl (by kernel_rfl) (by kernel_rfl) (by kernel_rfl) (fun _ _ _ h => h) (Or.inl ⟨by kernel_rfl, ?_⟩) (by assumption) ?_
        rotate_left
        · intro w hSw
          try dsimp only at hSw
          go_simp
          try (with_reducible rfl)
        try simp only [Act.put, List.getElem_toArray, List.getElem_cons_zero, List.getElem_cons_succ, List.setIfInBounds_toArray, List.set_cons_zero, List.set_cons_succ]

        refine wpAnyH_ready (rs := [8]) (by kernel_rfl) (by simp) ?_
        refine AllReadyH.cons (o := _) rfl (fun K hK => ?_) AllReadyH.nil

        go_simp
        go_at_call 42
        refine HC.out.mono ?_
        rintro e w3 ⟨v3, rfl, hb3, ho3⟩
        have hb3' : Below (wr).heap.size (wr) w3 := (Below.refl (wr).heap.size (wr)).drew.trans hb3
        obtain ⟨v4, w4, hr4, ho4, hg4⟩ := append_lexs w3 w.heap.size _ (u3) v3 (Lk) lz (own_below HF.out.2.2 hb3') ho3 (by omega) (HF.out.2.1.trans (hb3'.mono HF.out.2.1.size)).size
        have HR4 := Lib.hid hr4
        have HF4 := Lib.hid (HF.out.app hb3' ho3 ho4 hg4)
        have HK3 := Lib.hid (KeepP.below (KeepP.start (fun c => c = w.heap.size ∨ c = b) (wr)) hb3 hKl)
        have HK4 := Lib.hid (KeepP.grown HK3.out hg4 (fun c hc => ⟨Nat.lt_of_lt_of_le (HNE.out c hc).1 hb3'.size, (HNE.out c hc).2⟩))
        clear hb3 hb3' ho3 hr4 ho4 hg4 HC HF HNE
        dsimp only
        refine hK.out _ _ HK3.out (fun _ => ?_)
        clear hK K hHeld
        try simp only [Act.put, List.getElem_toArray, List.getElem_cons_zero, List.getElem_cons_succ, List.setIfInBounds_toArray, List.set_cons_zero, List.set_cons_succ]

        refine wpAnyH_ready (rs := [9]) (by kernel_rfl) (by simp) ?_
        refine AllReadyH.cons (o := _) rfl (fun K hK => ?_) AllReadyH.nil

        refine step_append_by (by rfl) _ _ _ _ rfl _ _ _ _ rfl rfl HR4.out ?_
        refine hK.out _ _ HK4.out (fun _ => ?_)
        clear hK K
        try simp only [Act.put, List.getElem_toArray, List.getElem_cons_zero, List.getElem_cons_succ, List.setIfInBounds_toArray, List.set_cons_zero, List.set_cons_succ]

        refine wpAnyH_take (i := 10) (oi := _) (v := ?_) rfl (by kernel_rfl) (by kernel_rfl) (by kernel_rfl) (fun _ _ _ h => h) (Or.inl ⟨by kernel_rfl, ?_⟩) (by assumption) ?_
        rotate_left
        · intro w hSw
          try dsimp only at hSw
          go_simp
          try (with_reducible rfl)
        try simp only [Act.put, List.getElem_toArray, List.getElem_cons_zero, List.getElem_cons_succ, List.setIfInBounds_toArray, List.set_cons_zero, List.set_cons_succ]

        refine wpAnyH_done (by kernel_rfl) ?_ _
        go_wp2
        go_roundw
        case rel =>
          refine ⟨k + 1, by go_num, by omega, Lib.hid ?_⟩
          rw [HS.out]
          exact HF4.out
        case measure => simp [intOf]; omega
      · skip
        go_upto_region 15 with fail
        refine wp_region_held_drew (S := fun w' => ∀ b' o', b' = w.heap.size ∨ b' = b → w'.cell? ⟨b', o', none⟩ = (wr).cell? ⟨b', o', none⟩) (by kernel_rfl) (KeepP.start (fun c => c = w.heap.size ∨ c = b) (wr)) (fun hHeld => ?_)
        refine wpAnyH_take (i := 0) (oi := _) (v := ?_) rfl (by kernel_rfl) (by kernel_rfl) (by kernel_rfl) (fun _ _ _ h => h) (Or.inl ⟨by kernel_rfl, ?_⟩) (by assumption) ?_
        rotate_left
        · intro w hSw
          try dsimp only at hSw
          go_simp
          try (with_reducible rfl)
        try simp only [Act.put, List.getElem_toArray, List.getElem_cons_zero, List.getElem_cons_succ, List.setIfInBounds_toArray, List.set_cons_zero, List.set_cons_succ]

        refine wpAnyH_take (i := 1) (oi := _) (v := ?_) rfl (by kernel_rfl) (by kernel_rfl) (by kernel_rfl) (fun _ _ _ h => h) (Or.inl ⟨by kernel_rfl, ?_⟩) (by assumption) ?_
        rotate_left
        · intro w hSw
          try dsimp only at hSw
          go_simp
          try (with_reducible rfl)
        try simp only [Act.put, List.getElem_toArray, List.getElem_cons_zero, List.getElem_cons_succ, List.setIfInBounds_toArray, List.set_cons_zero, List.set_cons_succ]

        refine wpAnyH_take (i := 2) (oi := _) (v := ?_) rfl (by kernel_rfl) (by kernel_rfl) (by kernel_rfl) (fun _ _ _ h => h) (Or.inl ⟨by kernel_rfl, ?_⟩) (by assumption) ?_
        rotate_left
        · intro w hSw
          try dsimp only at hSw
          go_simp
          try (with_reducible rfl)
        try simp only [Act.put, List.getElem_toArray, List.getElem_cons_zero, List.getElem_cons_succ, List.setIfInBounds_toArray, List.set_cons_zero, List.set_cons_succ]

        refine wpAnyH_take (i := 3) (oi := _) (v := ?_) rfl (by kernel_rfl) (by kernel_rfl) (by kernel_rfl) (fun _ _ _ h => h) (Or.inl ⟨by kernel_rfl, ?_⟩) (by assumption) ?_
        rotate_left
        · intro w hSw
          try dsimp only at hSw
          go_simp
          try (with_reducible rfl)
        try simp only [Act.put, List.getElem_toArray, List.getElem_cons_zero, List.getElem_cons_succ, List.setIfInBounds_toArray, List.set_cons_zero, List.set_cons_succ]

        refine wpAnyH_take (i := 4) (oi := _) (v := ?_) rfl (by kernel_rfl) (by kernel_rfl) (by kernel_rfl) (fun _ _ _ h => h) (Or.inl ⟨by kernel_rfl, ?_⟩) (by assumption) ?_
        rotate_left
        · intro w hSw
          try dsimp only at hSw
          go_simp
          try (with_reducible rfl)
        try simp only [Act.put, List.getElem_toArray, List.getElem_cons_zero, List.getElem_cons_succ, List.setIfInBounds_toArray, List.set_cons_zero, List.set_cons_succ]

        refine wpAnyH_take (i := 5) (oi := _) (v := ?_) rfl (by kernel_rfl) (by kernel_rfl) (by kernel_rfl) (fun _ _ _ h => h) (Or.inl ⟨by kernel_rfl, ?_⟩) (by assumption) ?_
        rotate_left
        · intro w hSw
          try dsimp only at hSw
          go_simp
          try (with_reducible rfl)
        try simp only [Act.put, List.getElem_toArray, List.getElem_cons_zero, List.getElem_cons_succ, List.setIfInBounds_toArray, List.set_cons_zero, List.set_cons_succ]

        refine wpAnyH_take (i := 6) (oi := _) (v := ?_) rfl (by kernel_rfl) (by kernel_rfl) (by kernel_rfl) (fun _ _ _ h => h) (Or.inl ⟨by kernel_rfl, ?_⟩) (by assumption) ?_
        rotate_left
        · intro w hSw
          try dsimp only at hSw
          go_simp
          try (with_reducible rfl)
        try simp only [Act.put, List.getElem_toArray, List.getElem_cons_zero, List.getElem_cons_succ, List.setIfInBounds_toArray, List.set_cons_zero, List.set_cons_succ]

        refine wpAnyH_take (i := 7) (oi := _) (v := ?_) rfl (by kernel_rfl) (by kernel_rfl) (by kernel_rfl) (fun _ _ _ h => h) (Or.inl ⟨by kernel_rfl, ?_⟩) (by assumption) ?_
        rotate_left
        · intro w hSw
          try dsimp only at hSw
          go_simp
          try (with_reducible rfl)
        try simp only [Act.put, List.getElem_toArray, List.getElem_cons_zero, List.getElem_cons_succ, List.setIfInBounds_toArray, List.set_cons_zero, List.set_cons_succ]

        refine wpAnyH_ready (rs := [8]) (by kernel_rfl) (by simp) ?_
        refine AllReadyH.cons (o := _) rfl (fun K hK => ?_) AllReadyH.nil

        go_simp
        go_at_call 42
        refine HC.out.mono ?_
        rintro e w3 ⟨v3, rfl, hb3, ho3⟩
        have hb3' : Below (wr).heap.size (wr) w3 := (Below.refl (wr).heap.size (wr)).drew.trans hb3
        obtain ⟨v4, w4, hr4, ho4, hg4⟩ := append_lexs w3 w.heap.size _ (u3) v3 (Lk) lz (own_below HF.out.2.2 hb3') ho3 (by omega) (HF.out.2.1.trans (hb3'.mono HF.out.2.1.size)).size
        have HR4 := Lib.hid hr4
        have HF4 := Lib.hid (HF.out.app hb3' ho3 ho4 hg4)
        have HK3 := Lib.hid (KeepP.below (KeepP.start (fun c => c = w.heap.size ∨ c = b) (wr)) hb3 hKl)
        have HK4 := Lib.hid (KeepP.grown HK3.out hg4 (fun c hc => ⟨Nat.lt_of_lt_of_le (HNE.out c hc).1 hb3'.size, (HNE.out c hc).2⟩))
        clear hb3 hb3' ho3 hr4 ho4 hg4 HC HF HNE
        dsimp only
        refine hK.out _ _ HK3.out (fun _ => ?_)
        clear hK K hHeld
        try simp only [Act.put, List.getElem_toArray, List.getElem_cons_zero, List.getElem_cons_succ, List.setIfInBounds_toArray, List.set_cons_zero, List.set_cons_succ]

        refine wpAnyH_ready (rs := [9]) (by kernel_rfl) (by simp) ?_
        refine AllReadyH.cons (o := _) rfl (fun K hK => ?_) AllReadyH.nil

        refine step_append_by (by rfl) _ _ _ _ rfl _ _ _ _ rfl rfl HR4.out ?_
        refine hK.out _ _ HK4.out (fun _ => ?_)
        clear hK K
        try simp only [Act.put, List.getElem_toArray, List.getElem_cons_zero, List.getElem_cons_succ, List.setIfInBounds_toArray, List.set_cons_zero, List.set_cons_succ]

        refine wpAnyH_take (i := 10) (oi := _) (v := ?_) rfl (by kernel_rfl) (by kernel_rfl) (by kernel_rfl) (fun _ _ _ h => h) (Or.inl ⟨by kernel_rfl, ?_⟩) (by assumption) ?_
        rotate_left
        · intro w hSw
          try dsimp only at hSw
          go_simp
          try (with_reducible rfl)
        try simp only [Act.put, List.getElem_toArray, List.getElem_cons_zero, List.getElem_cons_succ, List.setIfInBounds_toArray, List.set_cons_zero, List.set_cons_succ]

        refine wpAnyH_done (by kernel_rfl) ?_ _
        go_wp2
        go_roundw
        case rel =>
          refine ⟨k + 1, by go_num, by omega, Lib.hid ?_⟩
          rw [HS.out]
          exact HF4.out
        case measure => simp [intOf]; omega
    · obtain rfl : k = x.kids.len := by omega
      have hdl : ¬ ((x.kids.len : Int) < (x.kids.len : Int)) := by omega
      have hF0 := HM.out
      rw [show x.kids.writes.take x.kids.len = x.kids.writes by rw [← Trees.writes_len, List.take_length]] at hF0
      have n0 := (hF0.1).cell 0
      have n1 := (hF0.1).cell 1
      have n2 := (hF0.1).cell 2
      have n3 := (hF0.1).cell 3
      have n4 := (hF0.1).cell 4
      have n5 := (hF0.1).cell 5
      have n6 := (hF0.1).cell 6
      have n7 := (hF0.1).cell 7
      have hlx := (hF0.1).lt
      simp only [List.getElem?_toArray, List.getElem?_cons_zero, List.getElem?_cons_succ] at n0 n1 n2 n3 n4 n5 n6 n7
      have HF0 := Lib.hid hF0
      clear hF0 HM
      go_wp2
      go_light
      go_ret
      exact ⟨_, rfl, HF0.out.2.1, HF0.out.2.2⟩
set_option maxHeartbeats 8000000 in
theorem rwrite_alt (x : Nd) (hK : ∀ z ∈ x.kids.list, RWriteC z) (P : Nat → Prop) (B : Option Addr) (cap : Nat) (w : World) (ht : TreesAt w P x.kids B) (hl : x.write.length ≤ 40000000) (hkl : x.kids.len ≤ 140737488355328) (hk : x.kind = 5) : Calls Tryz.prog 19 #[ndV x B cap] w (RowOut x.write w) := by
  rw [Nd.write_alt hk] at hl ⊢
  have HM0 := Lib.hid (show BFr w #[.int .i64 5, .int .u64 ((word (x.set.testBit) 0 : Nat) : Int), .int .u64 ((word (x.set.testBit) 1 : Nat) : Int), .int .u64 ((word (x.set.testBit) 2 : Nat) : Int), .int .u64 ((word (x.set.testBit) 3 : Nat) : Int), .slice B x.kids.len cap, .int .i64 x.lo, .int .i64 x.hi] (barsS ((x.kids.writes.take 0).map (kidS 5))) _ _ from by rw [List.take_zero]; exact BFr.start w #[.int .i64 5, .int .u64 ((word (x.set.testBit) 0 : Nat) : Int), .int .u64 ((word (x.set.testBit) 1 : Nat) : Int), .int .u64 ((word (x.set.testBit) 2 : Nat) : Int), .int .u64 ((word (x.set.testBit) 3 : Nat) : Int), .slice B x.kids.len cap, .int .i64 x.lo, .int .i64 x.hi])
  have HT := Lib.hid ht
  have HK := Lib.hid hK
  unfold ndV
  rw [hk]
  clear ht hK
  go_enter Tryz.func19, Tryz.ntmps19
  go_wp2
  go_loopw [3, 4] (fun vr i' wr => ∃ k : Nat, i' = .int .i64 (k : Int) ∧ k ≤ x.kids.len ∧ Hid (BFr w #[.int .i64 5, .int .u64 ((word (x.set.testBit) 0 : Nat) : Int), .int .u64 ((word (x.set.testBit) 1 : Nat) : Int), .int .u64 ((word (x.set.testBit) 2 : Nat) : Int), .int .u64 ((word (x.set.testBit) 3 : Nat) : Int), .slice B x.kids.len cap, .int .i64 x.lo, .int .i64 x.hi] (barsS ((x.kids.writes.take k).map (kidS 5))) vr wr)) (fun _ i' _ => x.kids.len - (intOf i').toNat)
  case atStart => exact ⟨0, rfl, Nat.zero_le _, HM0⟩
  case round =>
    clear HM0
    obtain ⟨k, rfl, hk, HM⟩ := hrel
    by_cases hlt : k < x.kids.len
    · obtain ⟨z, hz⟩ : ∃ z, x.kids.list[k]? = some z := ⟨_, List.getElem?_eq_getElem (by rw [Trees.len_list]; exact hlt)⟩
      have hdl : (k : Int) < (x.kids.len : Int) := by omega
      have htk := bars_take (x.kids.writes.map (kidS 5)) (k + 1)
      rw [← List.map_take] at htk
      have hlz : (kidS 5 (z.kind, z.write)).length ≤ 40000000 → z.write.length ≤ 40000000 := by
        have : z.write.length ≤ (kidS 5 (z.kind, z.write)).length := by
          unfold kidS
          split
          · simp; omega
          · exact Nat.le_refl _
        omega
      rcases Nat.eq_zero_or_pos k with h0 | hpos
      · have hsn : barsS ((x.kids.writes.take (k + 1)).map (kidS 5)) = barsS ((x.kids.writes.take k).map (kidS 5)) ++ kidS 5 (z.kind, z.write) := by
          rw [h0] at hz ⊢
          rw [alt_first hz]
          simp [barsS]
        have hle : (barsS ((x.kids.writes.take k).map (kidS 5))).length + (kidS 5 (z.kind, z.write)).length ≤ 40000000 := by
          rw [hsn, List.length_append] at htk
          omega
        have hdp : ¬ (0 : Int) < (k : Int) := by omega
        have HS := Lib.hid hsn
        have hlz := hlz (by omega)
        have hM := HM.out
        obtain ⟨b, o, C, capc, rfl, _, _, hn0, hkz0⟩ := HT.out.get hz
        have hbw : b < w.heap.size := World.block_lt_of_cell? w _ hn0.1
        have hX := hM.1
        have hBB := hM.2.1
        obtain ⟨c0, c1, c2, c3, c4, c5, c6, c7⟩ := hn0.keep (w' := (wr)) (fun o' => hBB.cell (p := ⟨b, o', none⟩) hbw)
        have HC := Lib.hid (rkid_go 5 z C capc P (wr).drew ((hkz0.below hBB).below (Below.refl _ _).drew) (HK.out z (List.mem_of_getElem? hz)) hlz)
        unfold ndV at HC
        have n0 := (hX).cell 0
        have n1 := (hX).cell 1
        have n2 := (hX).cell 2
        have n3 := (hX).cell 3
        have n4 := (hX).cell 4
        have n5 := (hX).cell 5
        have n6 := (hX).cell 6
        have n7 := (hX).cell 7
        have hlx := (hX).lt
        simp only [List.getElem?_toArray, List.getElem?_cons_zero, List.getElem?_cons_succ] at n0 n1 n2 n3 n4 n5 n6 n7

        have hlb : b < (wr).heap.size := Nat.lt_of_lt_of_le hbw hBB.size
        have hKl := two_of (Q := fun c => c < (wr).heap.size) hlx hlb
        have HF := Lib.hid hM
        have hneg := blk_not_row hX (by decide) hM.2.2
        have hneb : some b ≠ (u3).ownBlock := fun e => by have := (hM.2.2.lt b e.symm).1; omega
        have HNE := Lib.hid (two_of (Q := fun c => c < (wr).heap.size ∧ some c ≠ (u3).ownBlock) ⟨hlx, hneg⟩ ⟨hlb, hneb⟩)
        clear hn0 hkz0 hX hBB hneg hneb
        clear hM HM hz hsn hl hlz htk h0
        generalize barsS ((x.kids.writes.take k).map (kidS 5)) = Lk at *
        generalize kidS 5 (z.kind, z.write) = lz at *
        go_upto_region 15 with fail
        refine wp_region_held_drew (S := fun w' => ∀ b' o', b' = w.heap.size ∨ b' = b → w'.cell? ⟨b', o', none⟩ = (wr).cell? ⟨b', o', none⟩) (by kernel_rfl) (KeepP.start (fun c => c = w.heap.size ∨ c = b) (wr)) (fun hHeld => ?_)
        refine wpAnyH_take (i := 0) (oi := _) (v := ?_) rfl (by kernel_rfl) (by kernel_rfl) (by kernel_rfl) (fun _ _ _ h => h) (Or.inl ⟨by kernel_rfl, ?_⟩) (by assumption) ?_
        rotate_left
        · intro w hSw
          try dsimp only at hSw
          go_simp
          try (with_reducible rfl)
        try simp only [Act.put, List.getElem_toArray, List.getElem_cons_zero, List.getElem_cons_succ, List.setIfInBounds_toArray, List.set_cons_zero, List.set_cons_succ]

        refine wpAnyH_take (i := 1) (oi := _) (v := ?_) rfl (by kernel_rfl) (by kernel_rfl) (by kernel_rfl) (fun _ _ _ h => h) (Or.inl ⟨by kernel_rfl, ?_⟩) (by assumption) ?_
        rotate_left
        · intro w hSw
          try dsimp only at hSw
          go_simp
          try (with_reducible rfl)
        try simp only [Act.put, List.getElem_toArray, List.getElem_cons_zero, List.getElem_cons_succ, List.setIfInBounds_toArray, List.set_cons_zero, List.set_cons_succ]

        refine wpAnyH_take (i := 2) (oi := _) (v := ?_) rfl (by kernel_rfl) (by kernel_rfl) (by kernel_rfl) (fun _ _ _ h => h) (Or.inl ⟨by kernel_rfl, ?_⟩) (by assumption) ?_
        rotate_left
        · intro w hSw
          try dsimp only at hSw
          go_simp
          try (with_reducible rfl)
        try simp only [Act.put, List.getElem_toArray, List.getElem_cons_zero, List.getElem_cons_succ, List.setIfInBounds_toArray, List.set_cons_zero, List.set_cons_succ]

        refine wpAnyH_take (i := 3) (oi := _) (v := ?_) rfl (by kernel_rfl) (by kernel_rfl) (by kernel_rfl) (fun _ _ _ h => h) (Or.inl ⟨by kernel_rfl, ?_⟩) (by assumption) ?_
        rotate_left
        · intro w hSw
          try dsimp only at hSw
          go_simp
          try (with_reducible rfl)
        try simp only [Act.put, List.getElem_toArray, List.getElem_cons_zero, List.getElem_cons_succ, List.setIfInBounds_toArray, List.set_cons_zero, List.set_cons_succ]

        refine wpAnyH_take (i := 4) (oi := _) (v := ?_) rfl (by kernel_rfl) (by kernel_rfl) (by kernel_rfl) (fun _ _ _ h => h) (Or.inl ⟨by kernel_rfl, ?_⟩) (by assumption) ?_
        rotate_left
        · intro w hSw
          try dsimp only at hSw
          go_simp
          try (with_reducible rfl)
        try simp only [Act.put, List.getElem_toArray, List.getElem_cons_zero, List.getElem_cons_succ, List.setIfInBounds_toArray, List.set_cons_zero, List.set_cons_succ]

        refine wpAnyH_take (i := 5) (oi := _) (v := ?_) rfl (by kernel_rfl) (by kernel_rfl) (by kernel_rfl) (fun _ _ _ h => h) (Or.inl ⟨by kernel_rfl, ?_⟩) (by assumption) ?_
        rotate_left
        · intro w hSw
          try dsimp only at hSw
          go_simp
          try (with_reducible rfl)
        try simp only [Act.put, List.getElem_toArray, List.getElem_cons_zero, List.getElem_cons_succ, List.setIfInBounds_toArray, List.set_cons_zero, List.set_cons_succ]

        refine wpAnyH_take (i := 6) (oi := _) (v := ?_) rfl (by kernel_rfl) (by kernel_rfl) (by kernel_rfl) (fun _ _ _ h => h) (Or.inl ⟨by kernel_rfl, ?_⟩) (by assumption) ?_
        rotate_left
        · intro w hSw
          try dsimp only at hSw
          go_simp
          try (with_reducible rfl)
        try simp only [Act.put, List.getElem_toArray, List.getElem_cons_zero, List.getElem_cons_succ, List.setIfInBounds_toArray, List.set_cons_zero, List.set_cons_succ]

        refine wpAnyH_take (i := 7) (oi := _) (v := ?_) rfl (by kernel_rfl) (by kernel_rfl) (by kernel_rfl) (fun _ _ _ h => h) (Or.inl ⟨by kernel_rfl, ?_⟩) (by assumption) ?_
        rotate_left
        · intro w hSw
          try dsimp only at hSw
          go_simp
          try (with_reducible rfl)
        try simp only [Act.put, List.getElem_toArray, List.getElem_cons_zero, List.getElem_cons_succ, List.setIfInBounds_toArray, List.set_cons_zero, List.set_cons_succ]

        refine wpAnyH_ready (rs := [8]) (by kernel_rfl) (by simp) ?_
        refine AllReadyH.cons (o := _) rfl (fun K hK => ?_) AllReadyH.nil

        go_simp
        go_at_call 42
        refine HC.out.mono ?_
        rintro e w3 ⟨v3, rfl, hb3, ho3⟩
        have hb3' : Below (wr).heap.size (wr) w3 := (Below.refl (wr).heap.size (wr)).drew.trans hb3
        obtain ⟨v4, w4, hr4, ho4, hg4⟩ := append_lexs w3 w.heap.size _ (u3) v3 (Lk) lz (own_below HF.out.2.2 hb3') ho3 (by omega) (HF.out.2.1.trans (hb3'.mono HF.out.2.1.size)).size
        have HR4 := Lib.hid hr4
        have HF4 := Lib.hid (HF.out.app hb3' ho3 ho4 hg4)
        have HK3 := Lib.hid (KeepP.below (KeepP.start (fun c => c = w.heap.size ∨ c = b) (wr)) hb3 hKl)
        have HK4 := Lib.hid (KeepP.grown HK3.out hg4 (fun c hc => ⟨Nat.lt_of_lt_of_le (HNE.out c hc).1 hb3'.size, (HNE.out c hc).2⟩))
        clear hb3 hb3' ho3 hr4 ho4 hg4 HC HF HNE
        dsimp only
        refine hK.out _ _ HK3.out (fun _ => ?_)
        clear hK K hHeld
        try simp only [Act.put, List.getElem_toArray, List.getElem_cons_zero, List.getElem_cons_succ, List.setIfInBounds_toArray, List.set_cons_zero, List.set_cons_succ]

        refine wpAnyH_ready (rs := [9]) (by kernel_rfl) (by simp) ?_
        refine AllReadyH.cons (o := _) rfl (fun K hK => ?_) AllReadyH.nil

        refine step_append_by (by rfl) _ _ _ _ rfl _ _ _ _ rfl rfl HR4.out ?_
        refine hK.out _ _ HK4.out (fun _ => ?_)
        clear hK K
        try simp only [Act.put, List.getElem_toArray, List.getElem_cons_zero, List.getElem_cons_succ, List.setIfInBounds_toArray, List.set_cons_zero, List.set_cons_succ]

        refine wpAnyH_take (i := 10) (oi := _) (v := ?_) rfl (by kernel_rfl) (by kernel_rfl) (by kernel_rfl) (fun _ _ _ h => h) (Or.inl ⟨by kernel_rfl, ?_⟩) (by assumption) ?_
        rotate_left
        · intro w hSw
          try dsimp only at hSw
          go_simp
          try (with_reducible rfl)
        try simp only [Act.put, List.getElem_toArray, List.getElem_cons_zero, List.getElem_cons_succ, List.setIfInBounds_toArray, List.set_cons_zero, List.set_cons_succ]

        refine wpAnyH_done (by kernel_rfl) ?_ _
        go_wp2
        go_roundw
        case rel =>
          refine ⟨k + 1, by go_num, by omega, Lib.hid ?_⟩
          rw [HS.out]
          exact HF4.out
        case measure => simp [intOf]; omega
      · have hsn := alt_snoc hz hpos
        have hle : (barsS ((x.kids.writes.take k).map (kidS 5)) ++ [lexK 4]).length + (kidS 5 (z.kind, z.write)).length ≤ 40000000 := by
          rw [hsn, List.length_append] at htk
          omega
        have hdp : (0 : Int) < (k : Int) := by omega
        have HS := Lib.hid hsn
        have hlz := hlz (by omega)
        generalize barsS ((x.kids.writes.take k).map (kidS 5)) = Lk at *
        have hle0 : Lk.length ≤ 40000000 := by rw [List.length_append] at hle; omega
        obtain ⟨v2, w2, hr2, ho2, hg2⟩ := append_lexs (wr.alloc (.cells (lexCell (lexK 4)).toArray 58)) w.heap.size wr.heap.size u3 (.slice (some ⟨wr.heap.size, 0, none⟩) 1 1) Lk [lexK 4] (HM.out.2.2.alloc _) (row_new wr (lexK 4)) (by simp; omega) (by rw [World.size_alloc]; have := HM.out.2.1.size; omega)
        have HR2 := Lib.hid hr2
        have HF2 := Lib.hid (HM.out.app ((Below.refl _ _).alloc (Nat.le_refl _) (.cells (lexCell (lexK 4)).toArray 58)) (row_new wr (lexK 4)) ho2 hg2)
        clear hr2 ho2 hg2
        have hX0 := HM.out.1
        have n0 := (hX0).cell 0
        have n1 := (hX0).cell 1
        have n2 := (hX0).cell 2
        have n3 := (hX0).cell 3
        have n4 := (hX0).cell 4
        have n5 := (hX0).cell 5
        have n6 := (hX0).cell 6
        have n7 := (hX0).cell 7
        have hlx := (hX0).lt
        simp only [List.getElem?_toArray, List.getElem?_cons_zero, List.getElem?_cons_succ] at n0 n1 n2 n3 n4 n5 n6 n7
        clear hX0
        go_upto_region 15 with (at_builtin; refine wpList_append_by (by rfl) _ _ _ _ rfl _ _ _ _ rfl rfl HR2.out ?_)
        clear n0 n1 n2 n3 n4 n5 n6 n7 hlx
        have hM := HF2.out
        obtain ⟨b, o, C, capc, rfl, _, _, hn0, hkz0⟩ := HT.out.get hz
        have hbw : b < w.heap.size := World.block_lt_of_cell? w _ hn0.1
        have hX := hM.1
        have hBB := hM.2.1
        obtain ⟨c0, c1, c2, c3, c4, c5, c6, c7⟩ := hn0.keep (w' := (w2)) (fun o' => hBB.cell (p := ⟨b, o', none⟩) hbw)
        have HC := Lib.hid (rkid_go 5 z C capc P (w2).drew ((hkz0.below hBB).below (Below.refl _ _).drew) (HK.out z (List.mem_of_getElem? hz)) hlz)
        unfold ndV at HC
        have n0 := (hX).cell 0
        have n1 := (hX).cell 1
        have n2 := (hX).cell 2
        have n3 := (hX).cell 3
        have n4 := (hX).cell 4
        have n5 := (hX).cell 5
        have n6 := (hX).cell 6
        have n7 := (hX).cell 7
        have hlx := (hX).lt
        simp only [List.getElem?_toArray, List.getElem?_cons_zero, List.getElem?_cons_succ] at n0 n1 n2 n3 n4 n5 n6 n7

        have hlb : b < (w2).heap.size := Nat.lt_of_lt_of_le hbw hBB.size
        have hKl := two_of (Q := fun c => c < (w2).heap.size) hlx hlb
        have HF := Lib.hid hM
        have hneg := blk_not_row hX (by decide) hM.2.2
        have hneb : some b ≠ (v2).ownBlock := fun e => by have := (hM.2.2.lt b e.symm).1; omega
        have HNE := Lib.hid (two_of (Q := fun c => c < (w2).heap.size ∧ some c ≠ (v2).ownBlock) ⟨hlx, hneg⟩ ⟨hlb, hneb⟩)
        clear hn0 hkz0 hX hBB hneg hneb
        clear hM HM HF2 HR2 hz hsn hl hlz htk hle0
        generalize kidS 5 (z.kind, z.write) = lz at *
        refine wp_region_held_drew (S := fun w' => ∀ b' o', b' = w.heap.size ∨ b' = b → w'.cell? ⟨b', o', none⟩ = (w2).cell? ⟨b', o', none⟩) (by kernel_rfl) (KeepP.start (fun c => c = w.heap.size ∨ c = b) (w2)) (fun hHeld => ?_)
        refine wpAnyH_take (i := 0) (oi := _) (v := ?_) rfl (by kernel_rfl) (by kernel_rfl) (by kernel_rfl) (fun _ _ _ h => h) (Or.inl ⟨by kernel_rfl, ?_⟩) (by assumption) ?_
        rotate_left
        · intro w hSw
          try dsimp only at hSw
          go_simp
          try (with_reducible rfl)
        try simp only [Act.put, List.getElem_toArray, List.getElem_cons_zero, List.getElem_cons_succ, List.setIfInBounds_toArray, List.set_cons_zero, List.set_cons_succ]

        refine wpAnyH_take (i := 1) (oi := _) (v := ?_) rfl (by kernel_rfl) (by kernel_rfl) (by kernel_rfl) (fun _ _ _ h => h) (Or.inl ⟨by kernel_rfl, ?_⟩) (by assumption) ?_
        rotate_left
        · intro w hSw
          try dsimp only at hSw
          go_simp
          try (with_reducible rfl)
        try simp only [Act.put, List.getElem_toArray, List.getElem_cons_zero, List.getElem_cons_succ, List.setIfInBounds_toArray, List.set_cons_zero, List.set_cons_succ]

        refine wpAnyH_take (i := 2) (oi := _) (v := ?_) rfl (by kernel_rfl) (by kernel_rfl) (by kernel_rfl) (fun _ _ _ h => h) (Or.inl ⟨by kernel_rfl, ?_⟩) (by assumption) ?_
        rotate_left
        · intro w hSw
          try dsimp only at hSw
          go_simp
          try (with_reducible rfl)
        try simp only [Act.put, List.getElem_toArray, List.getElem_cons_zero, List.getElem_cons_succ, List.setIfInBounds_toArray, List.set_cons_zero, List.set_cons_succ]

        refine wpAnyH_take (i := 3) (oi := _) (v := ?_) rfl (by kernel_rfl) (by kernel_rfl) (by kernel_rfl) (fun _ _ _ h => h) (Or.inl ⟨by kernel_rfl, ?_⟩) (by assumption) ?_
        rotate_left
        · intro w hSw
          try dsimp only at hSw
          go_simp
          try (with_reducible rfl)
        try simp only [Act.put, List.getElem_toArray, List.getElem_cons_zero, List.getElem_cons_succ, List.setIfInBounds_toArray, List.set_cons_zero, List.set_cons_succ]

        refine wpAnyH_take (i := 4) (oi := _) (v := ?_) rfl (by kernel_rfl) (by kernel_rfl) (by kernel_rfl) (fun _ _ _ h => h) (Or.inl ⟨by kernel_rfl, ?_⟩) (by assumption) ?_
        rotate_left
        · intro w hSw
          try dsimp only at hSw
          go_simp
          try (with_reducible rfl)
        try simp only [Act.put, List.getElem_toArray, List.getElem_cons_zero, List.getElem_cons_succ, List.setIfInBounds_toArray, List.set_cons_zero, List.set_cons_succ]

        refine wpAnyH_take (i := 5) (oi := _) (v := ?_) rfl (by kernel_rfl) (by kernel_rfl) (by kernel_rfl) (fun _ _ _ h => h) (Or.inl ⟨by kernel_rfl, ?_⟩) (by assumption) ?_
        rotate_left
        · intro w hSw
          try dsimp only at hSw
          go_simp
          try (with_reducible rfl)
        try simp only [Act.put, List.getElem_toArray, List.getElem_cons_zero, List.getElem_cons_succ, List.setIfInBounds_toArray, List.set_cons_zero, List.set_cons_succ]

        refine wpAnyH_take (i := 6) (oi := _) (v := ?_) rfl (by kernel_rfl) (by kernel_rfl) (by kernel_rfl) (fun _ _ _ h => h) (Or.inl ⟨by kernel_rfl, ?_⟩) (by assumption) ?_
        rotate_left
        · intro w hSw
          try dsimp only at hSw
          go_simp
          try (with_reducible rfl)
        try simp only [Act.put, List.getElem_toArray, List.getElem_cons_zero, List.getElem_cons_succ, List.setIfInBounds_toArray, List.set_cons_zero, List.set_cons_succ]

        refine wpAnyH_take (i := 7) (oi := _) (v := ?_) rfl (by kernel_rfl) (by kernel_rfl) (by kernel_rfl) (fun _ _ _ h => h) (Or.inl ⟨by kernel_rfl, ?_⟩) (by assumption) ?_
        rotate_left
        · intro w hSw
          try dsimp only at hSw
          go_simp
          try (with_reducible rfl)
        try simp only [Act.put, List.getElem_toArray, List.getElem_cons_zero, List.getElem_cons_succ, List.setIfInBounds_toArray, List.set_cons_zero, List.set_cons_succ]

        refine wpAnyH_ready (rs := [8]) (by kernel_rfl) (by simp) ?_
        refine AllReadyH.cons (o := _) rfl (fun K hK => ?_) AllReadyH.nil

        go_simp
        go_at_call 42
        refine HC.out.mono ?_
        rintro e w3 ⟨v3, rfl, hb3, ho3⟩
        have hb3' : Below (w2).heap.size (w2) w3 := (Below.refl (w2).heap.size (w2)).drew.trans hb3
        obtain ⟨v4, w4, hr4, ho4, hg4⟩ := append_lexs w3 w.heap.size _ (v2) v3 (Lk ++ [lexK 4]) lz (own_below HF.out.2.2 hb3') ho3 (by omega) (HF.out.2.1.trans (hb3'.mono HF.out.2.1.size)).size
        have HR4 := Lib.hid hr4
        have HF4 := Lib.hid (HF.out.app hb3' ho3 ho4 hg4)
        have HK3 := Lib.hid (KeepP.below (KeepP.start (fun c => c = w.heap.size ∨ c = b) (w2)) hb3 hKl)
        have HK4 := Lib.hid (KeepP.grown HK3.out hg4 (fun c hc => ⟨Nat.lt_of_lt_of_le (HNE.out c hc).1 hb3'.size, (HNE.out c hc).2⟩))
        clear hb3 hb3' ho3 hr4 ho4 hg4 HC HF HNE
        dsimp only
        refine hK.out _ _ HK3.out (fun _ => ?_)
        clear hK K hHeld
        try simp only [Act.put, List.getElem_toArray, List.getElem_cons_zero, List.getElem_cons_succ, List.setIfInBounds_toArray, List.set_cons_zero, List.set_cons_succ]

        refine wpAnyH_ready (rs := [9]) (by kernel_rfl) (by simp) ?_
        refine AllReadyH.cons (o := _) rfl (fun K hK => ?_) AllReadyH.nil

        refine step_append_by (by rfl) _ _ _ _ rfl _ _ _ _ rfl rfl HR4.out ?_
        refine hK.out _ _ HK4.out (fun _ => ?_)
        clear hK K
        try simp only [Act.put, List.getElem_toArray, List.getElem_cons_zero, List.getElem_cons_succ, List.setIfInBounds_toArray, List.set_cons_zero, List.set_cons_succ]

        refine wpAnyH_take (i := 10) (oi := _) (v := ?_) rfl (by kernel_rfl) (by kernel_rfl) (by kernel_rfl) (fun _ _ _ h => h) (Or.inl ⟨by kernel_rfl, ?_⟩) (by assumption) ?_
        rotate_left
        · intro w hSw
          try dsimp only at hSw
          go_simp
          try (with_reducible rfl)
        try simp only [Act.put, List.getElem_toArray, List.getElem_cons_zero, List.getElem_cons_succ, List.setIfInBounds_toArray, List.set_cons_zero, List.set_cons_succ]

        refine wpAnyH_done (by kernel_rfl) ?_ _
        go_wp2
        go_roundw
        case rel =>
          refine ⟨k + 1, by go_num, by omega, Lib.hid ?_⟩
          rw [HS.out]
          exact HF4.out
        case measure => simp [intOf]; omega
    · obtain rfl : k = x.kids.len := by omega
      have hdl : ¬ ((x.kids.len : Int) < (x.kids.len : Int)) := by omega
      have hF0 := HM.out
      rw [show x.kids.writes.take x.kids.len = x.kids.writes by rw [← Trees.writes_len, List.take_length]] at hF0
      have n0 := (hF0.1).cell 0
      have n1 := (hF0.1).cell 1
      have n2 := (hF0.1).cell 2
      have n3 := (hF0.1).cell 3
      have n4 := (hF0.1).cell 4
      have n5 := (hF0.1).cell 5
      have n6 := (hF0.1).cell 6
      have n7 := (hF0.1).cell 7
      have hlx := (hF0.1).lt
      simp only [List.getElem?_toArray, List.getElem?_cons_zero, List.getElem?_cons_succ] at n0 n1 n2 n3 n4 n5 n6 n7
      have HF0 := Lib.hid hF0
      clear hF0 HM
      go_wp2
      go_light
      go_ret
      exact ⟨_, rfl, HF0.out.2.1, HF0.out.2.2⟩
theorem three_of {Q : Nat → Prop} {p q r : Nat} (hp : Q p) (hq : Q q) (hr : Q r) : ∀ b, b = p ∨ b = q ∨ b = r → Q b := by
  rintro b (rfl | rfl | rfl)
  · exact hp
  · exact hq
  · exact hr
set_option maxHeartbeats 8000000 in
theorem rwrite_one9 (x : Nd) (hK : ∀ z ∈ x.kids.list, RWriteC z) (P : Nat → Prop) (B : Option Addr) (cap : Nat) (w : World) (ht : TreesAt w P x.kids B) (hl : x.write.length ≤ 40000000) (hkl : x.kids.len ≤ 140737488355328) (hk : x.kind = 9) (hk1 : x.kids.len = 1)  : Calls Tryz.prog 19 #[ndV x B cap] w (RowOut x.write w) := by
  obtain ⟨z, hz1, hz⟩ := one_kid hk1
  rw [Nd.write_rep hk, Trees.writes_head hz] at hl ⊢
  have hlk : (kidS 9 (z.kind, z.write)).length + 1 ≤ 40000000 := by
    simp only [List.length_append, List.length_cons, List.length_nil, hk] at hl
    omega
  have hlz : z.write.length ≤ 40000000 := by
    have : z.write.length ≤ (kidS 9 (z.kind, z.write)).length := by
      unfold kidS
      split
      · simp; omega
      · exact Nat.le_refl _
    omega
  obtain ⟨b, o, C, capc, rfl, _, _, hn0, hkz0⟩ := ht.get hz
  have hbw : b < w.heap.size := World.block_lt_of_cell? w _ hn0.1
  have HKZ := Lib.hid hkz0
  have HN0 := Lib.hid hn0
  have HW := Lib.hid (hK z (List.mem_of_getElem? hz))
  have HK1 := Lib.hid hk1
  clear hk1 hK ht hkz0 hn0 hz hz1 hl
  unfold ndV
  skip
  try rw [hk]
  clear hk
  have HX0 := Lib.hid (show Blk (((w.alloc (.cells #[.int .i64 9, .int .u64 ((word (x.set.testBit) 0 : Nat) : Int), .int .u64 ((word (x.set.testBit) 1 : Nat) : Int), .int .u64 ((word (x.set.testBit) 2 : Nat) : Int), .int .u64 ((word (x.set.testBit) 3 : Nat) : Int), .slice (some ⟨b, o, none⟩) x.kids.len cap, .int .i64 x.lo, .int .i64 x.hi] 28)).alloc (.cells #[] 58)).alloc (.cells #[.int .i64 8, .int .i64 0, .int .u64 0, .int .u64 0, .int .u64 0, .int .u64 0, .int .i64 x.lo, .int .i64 x.hi] 58)) w.heap.size 28 _ ∧ Blk (((w.alloc (.cells #[.int .i64 9, .int .u64 ((word (x.set.testBit) 0 : Nat) : Int), .int .u64 ((word (x.set.testBit) 1 : Nat) : Int), .int .u64 ((word (x.set.testBit) 2 : Nat) : Int), .int .u64 ((word (x.set.testBit) 3 : Nat) : Int), .slice (some ⟨b, o, none⟩) x.kids.len cap, .int .i64 x.lo, .int .i64 x.hi] 28)).alloc (.cells #[] 58)).alloc (.cells #[.int .i64 8, .int .i64 0, .int .u64 0, .int .u64 0, .int .u64 0, .int .u64 0, .int .i64 x.lo, .int .i64 x.hi] 58)) (w.heap.size + 1 + 1) 58 #[.int .i64 8, .int .i64 0, .int .u64 0, .int .u64 0, .int .u64 0, .int .u64 0, .int .i64 x.lo, .int .i64 x.hi] ∧ Below w.heap.size w (((w.alloc (.cells #[.int .i64 9, .int .u64 ((word (x.set.testBit) 0 : Nat) : Int), .int .u64 ((word (x.set.testBit) 1 : Nat) : Int), .int .u64 ((word (x.set.testBit) 2 : Nat) : Int), .int .u64 ((word (x.set.testBit) 3 : Nat) : Int), .slice (some ⟨b, o, none⟩) x.kids.len cap, .int .i64 x.lo, .int .i64 x.hi] 28)).alloc (.cells #[] 58)).alloc (.cells #[.int .i64 8, .int .i64 0, .int .u64 0, .int .u64 0, .int .u64 0, .int .u64 0, .int .i64 x.lo, .int .i64 x.hi] 58)) from ⟨((Blk.new w _ _).alloc _).alloc _, Blk.new_at (by simp), (((Below.refl w.heap.size w).alloc (Nat.le_refl _) _).alloc (by simp) _).alloc (by simp; omega) _⟩)
  go_enter Tryz.func19, Tryz.ntmps19
  go_upto_region 20 with fail
  generalize (((w.alloc (.cells #[.int .i64 9, .int .u64 ((word (x.set.testBit) 0 : Nat) : Int), .int .u64 ((word (x.set.testBit) 1 : Nat) : Int), .int .u64 ((word (x.set.testBit) 2 : Nat) : Int), .int .u64 ((word (x.set.testBit) 3 : Nat) : Int), .slice (some ⟨b, o, none⟩) x.kids.len cap, .int .i64 x.lo, .int .i64 x.hi] 28)).alloc (.cells #[] 58)).alloc (.cells #[.int .i64 8, .int .i64 0, .int .u64 0, .int .u64 0, .int .u64 0, .int .u64 0, .int .i64 x.lo, .int .i64 x.hi] 58)) = w2 at *
  have hk1 := HK1.out
  have hX := HX0.out.1
  have hY := HX0.out.2.1
  have hBB := HX0.out.2.2
  obtain ⟨c0, c1, c2, c3, c4, c5, c6, c7⟩ := HN0.out.keep (w' := w2) (fun o' => hBB.cell (p := ⟨b, o', none⟩) hbw)
  simp only [Nat.zero_mul, Nat.add_zero] at c0 c1 c2 c3 c4 c5 c6 c7
  have n0 := (hX).cell 0
  have n1 := (hX).cell 1
  have n2 := (hX).cell 2
  have n3 := (hX).cell 3
  have n4 := (hX).cell 4
  have n5 := (hX).cell 5
  have n6 := (hX).cell 6
  have n7 := (hX).cell 7
  have hlx := (hX).lt
  simp only [List.getElem?_toArray, List.getElem?_cons_zero, List.getElem?_cons_succ] at n0 n1 n2 n3 n4 n5 n6 n7
  have y0 := hY.cell 0
  have y1 := hY.cell 1
  have y2 := hY.cell 2
  have y3 := hY.cell 3
  have y4 := hY.cell 4
  have y5 := hY.cell 5
  have y6 := hY.cell 6
  have y7 := hY.cell 7
  have hly := hY.lt
  simp only [List.getElem?_toArray, List.getElem?_cons_zero, List.getElem?_cons_succ] at y0 y1 y2 y3 y4 y5 y6 y7
  have hlb : b < w2.heap.size := Nat.lt_of_lt_of_le hbw hBB.size
  have hKl := three_of (Q := fun c => c < w2.heap.size) hlx hlb hly
  have HC := Lib.hid (rkid_go 9 z C capc P w2.drew ((HKZ.out.below hBB).below (Below.refl _ _).drew) HW.out hlz)
  have HD := Lib.hid (rkid_go 9 z C capc P (w2.drew.alloc (.cells #[.int .i64 8, .int .i64 0, .int .u64 0, .int .u64 0, .int .u64 0, .int .u64 0, .int .i64 x.lo, .int .i64 x.hi] 58)) ((HKZ.out.below hBB).below ((Below.refl _ _).drew.alloc (Nat.le_refl _) _)) HW.out hlz)
  have HBB := Lib.hid hBB
  have HLC := Lib.hid (show lexCell (⟨8, 0, noSet, x.lo, x.hi⟩) = [.int .i64 8, .int .i64 0, .int .u64 0, .int .u64 0, .int .u64 0, .int .u64 0, .int .i64 x.lo, .int .i64 x.hi] from rfl)
  unfold ndV at HC HD
  clear hX hY hBB HX0 HKZ HN0 HW
  generalize kidS 9 (z.kind, z.write) = lz at *
  refine wp_region_held_drew (S := fun w' => ∀ b' o', (b' = w.heap.size ∨ b' = b ∨ b' = w.heap.size + 1 + 1) → w'.cell? ⟨b', o', none⟩ = w2.cell? ⟨b', o', none⟩) (by kernel_rfl) (KeepP.start (fun c => c = w.heap.size ∨ c = b ∨ c = w.heap.size + 1 + 1) w2) (fun hHeld => ?_)
  refine wpAnyH_take (i := 0) (oi := _) (v := ?_) rfl (by kernel_rfl) (by kernel_rfl) (by kernel_rfl) (fun _ _ _ h => h) (Or.inl ⟨by kernel_rfl, ?_⟩) (by assumption) ?_
  rotate_left
  · intro w hSw
    try dsimp only at hSw
    go_simp
    try (with_reducible rfl)
  try simp only [Act.put, List.getElem_toArray, List.getElem_cons_zero, List.getElem_cons_succ, List.setIfInBounds_toArray, List.set_cons_zero, List.set_cons_succ]
  refine wpAnyH_take (i := 1) (oi := _) (v := ?_) rfl (by kernel_rfl) (by kernel_rfl) (by kernel_rfl) (fun _ _ _ h => h) (Or.inl ⟨by kernel_rfl, ?_⟩) (by assumption) ?_
  rotate_left
  · intro w hSw
    try dsimp only at hSw
    go_simp
    try (with_reducible rfl)
  try simp only [Act.put, List.getElem_toArray, List.getElem_cons_zero, List.getElem_cons_succ, List.setIfInBounds_toArray, List.set_cons_zero, List.set_cons_succ]
  refine wpAnyH_take (i := 2) (oi := _) (v := ?_) rfl (by kernel_rfl) (by kernel_rfl) (by kernel_rfl) (fun _ _ _ h => h) (Or.inl ⟨by kernel_rfl, ?_⟩) (by assumption) ?_
  rotate_left
  · intro w hSw
    try dsimp only at hSw
    go_simp
    try (with_reducible rfl)
  try simp only [Act.put, List.getElem_toArray, List.getElem_cons_zero, List.getElem_cons_succ, List.setIfInBounds_toArray, List.set_cons_zero, List.set_cons_succ]
  refine wpAnyH_take (i := 3) (oi := _) (v := ?_) rfl (by kernel_rfl) (by kernel_rfl) (by kernel_rfl) (fun _ _ _ h => h) (Or.inl ⟨by kernel_rfl, ?_⟩) (by assumption) ?_
  rotate_left
  · intro w hSw
    try dsimp only at hSw
    go_simp
    try (with_reducible rfl)
  try simp only [Act.put, List.getElem_toArray, List.getElem_cons_zero, List.getElem_cons_succ, List.setIfInBounds_toArray, List.set_cons_zero, List.set_cons_succ]
  refine wpAnyH_take (i := 4) (oi := _) (v := ?_) rfl (by kernel_rfl) (by kernel_rfl) (by kernel_rfl) (fun _ _ _ h => h) (Or.inl ⟨by kernel_rfl, ?_⟩) (by assumption) ?_
  rotate_left
  · intro w hSw
    try dsimp only at hSw
    go_simp
    try (with_reducible rfl)
  try simp only [Act.put, List.getElem_toArray, List.getElem_cons_zero, List.getElem_cons_succ, List.setIfInBounds_toArray, List.set_cons_zero, List.set_cons_succ]
  refine wpAnyH_take (i := 5) (oi := _) (v := ?_) rfl (by kernel_rfl) (by kernel_rfl) (by kernel_rfl) (fun _ _ _ h => h) (Or.inl ⟨by kernel_rfl, ?_⟩) (by assumption) ?_
  rotate_left
  · intro w hSw
    try dsimp only at hSw
    go_simp
    try (with_reducible rfl)
  try simp only [Act.put, List.getElem_toArray, List.getElem_cons_zero, List.getElem_cons_succ, List.setIfInBounds_toArray, List.set_cons_zero, List.set_cons_succ]
  refine wpAnyH_take (i := 7) (oi := _) (v := ?_) rfl (by kernel_rfl) (by kernel_rfl) (by kernel_rfl) (fun _ _ _ h => h) (Or.inl ⟨by kernel_rfl, ?_⟩) (by assumption) ?_
  rotate_left
  · intro w hSw
    try dsimp only at hSw
    go_simp
    try (with_reducible rfl)
  try simp only [Act.put, List.getElem_toArray, List.getElem_cons_zero, List.getElem_cons_succ, List.setIfInBounds_toArray, List.set_cons_zero, List.set_cons_succ]
  refine wpAnyH_ready (rs := [6, 8]) (by kernel_rfl) (by simp) ?_
  refine AllReadyH.cons (o := _) rfl (fun K hK => ?_) (AllReadyH.cons (o := _) rfl (fun K hK => ?_) AllReadyH.nil)
  · skip
    go_simp
    go_at_call 42
    refine HC.out.mono ?_
    rintro e w3 ⟨v3, rfl, hb3, ho3⟩
    have hb3' : Below w2.heap.size w2 w3 := (Below.refl w2.heap.size w2).drew.trans hb3
    have hB3 := HBB.out.trans (hb3'.mono HBB.out.size)
    have hr := row_new w3 (⟨8, 0, noSet, x.lo, x.hi⟩)
    rw [HLC.out] at hr
    obtain ⟨v4, w4, hr4, ho4, hg4⟩ := append_lexs (w3.alloc (.cells #[.int .i64 8, .int .i64 0, .int .u64 0, .int .u64 0, .int .u64 0, .int .u64 0, .int .i64 x.lo, .int .i64 x.hi] 58)) w.heap.size _ v3 _ lz [⟨8, 0, noSet, x.lo, x.hi⟩] ((ho3.mono (base' := w.heap.size) HBB.out.size).alloc _) hr (by simp; omega) (by rw [World.size_alloc]; have := hB3.size; omega)
    have HK3 := Lib.hid (KeepP.below (KeepP.start (fun c => c = w.heap.size ∨ c = b ∨ c = w.heap.size + 1 + 1) w2) hb3 hKl)
    have hKl3 : ∀ c, (c = w.heap.size ∨ c = b ∨ c = w.heap.size + 1 + 1) → c < w3.heap.size := fun c hc => Nat.lt_of_lt_of_le (hKl c hc) hb3'.size
    have HK3' := Lib.hid (KeepP.alloc HK3.out hKl3 (.cells #[.int .i64 8, .int .i64 0, .int .u64 0, .int .u64 0, .int .u64 0, .int .u64 0, .int .i64 x.lo, .int .i64 x.hi] 58))
    have HK4 := Lib.hid (KeepP.grown HK3'.out hg4 (fun c hc => ⟨by rw [World.size_alloc]; have := hKl3 c hc; omega, fun e => by have := (ho3.lt c e.symm).1; have := hKl c hc; have hd : w2.drew.heap.size = w2.heap.size := rfl; omega⟩))
    dsimp only
    refine hK.out _ _ HK3.out (fun _ => ?_)
    clear hK K hHeld
    try simp only [Act.put, List.getElem_toArray, List.getElem_cons_zero, List.getElem_cons_succ, List.setIfInBounds_toArray, List.set_cons_zero, List.set_cons_succ]
    refine wpAnyH_ready (rs := [8]) (by kernel_rfl) (by simp) ?_
    refine AllReadyH.cons (o := _) rfl (fun K hK => ?_) AllReadyH.nil
    go_simp
    have HR4 := Lib.hid hr4
    have HF4 := Lib.hid (show _ ∧ _ from ⟨grown_since (hB3.alloc hB3.size _) ((ho3.mono (base' := w.heap.size) HBB.out.size).alloc _) hg4, ho4⟩)
    clear hr4 ho4 hg4
    refine hK.out _ _ HK3'.out (fun _ => ?_); clear hK K
    try simp only [Act.put, List.getElem_toArray, List.getElem_cons_zero, List.getElem_cons_succ, List.setIfInBounds_toArray, List.set_cons_zero, List.set_cons_succ]

    refine wpAnyH_ready (rs := [9]) (by kernel_rfl) (by simp) ?_
    refine AllReadyH.cons (o := _) rfl (fun K hK => ?_) AllReadyH.nil

    refine step_append_by (by rfl) _ _ _ _ rfl _ _ _ _ rfl rfl HR4.out ?_
    refine hK.out _ _ HK4.out (fun _ => ?_)
    clear hK K
    try simp only [Act.put, List.getElem_toArray, List.getElem_cons_zero, List.getElem_cons_succ, List.setIfInBounds_toArray, List.set_cons_zero, List.set_cons_succ]

    refine wpAnyH_take (i := 10) (oi := _) (v := ?_) rfl (by kernel_rfl) (by kernel_rfl) (by kernel_rfl) (fun _ _ _ h => h) (Or.inl ⟨by kernel_rfl, ?_⟩) (by assumption) ?_
    rotate_left
    · intro w hSw
      try dsimp only at hSw
      go_simp
      try (with_reducible rfl)
    try simp only [Act.put, List.getElem_toArray, List.getElem_cons_zero, List.getElem_cons_succ, List.setIfInBounds_toArray, List.set_cons_zero, List.set_cons_succ]

    refine wpAnyH_done (by kernel_rfl) ?_ _
    go_wp2
    go_light
    go_ret
    exact ⟨_, rfl, HF4.out.1, HF4.out.2⟩
  · skip
    go_simp
    have HK2 := Lib.hid (KeepP.alloc (KeepP.start (fun c => c = w.heap.size ∨ c = b ∨ c = w.heap.size + 1 + 1) w2) hKl (.cells #[.int .i64 8, .int .i64 0, .int .u64 0, .int .u64 0, .int .u64 0, .int .u64 0, .int .i64 x.lo, .int .i64 x.hi] 58))
    refine hK.out _ _ HK2.out (fun _ => ?_)
    clear hK K hHeld
    try simp only [Act.put, List.getElem_toArray, List.getElem_cons_zero, List.getElem_cons_succ, List.setIfInBounds_toArray, List.set_cons_zero, List.set_cons_succ]
    refine wpAnyH_ready (rs := [6]) (by kernel_rfl) (by simp) ?_
    refine AllReadyH.cons (o := _) rfl (fun K hK => ?_) AllReadyH.nil
    go_simp
    go_at_call 42
    refine HD.out.mono ?_
    rintro e w3 ⟨v3, rfl, hb3, ho3⟩
    have hb3' : Below w2.heap.size w2 w3 := ((Below.refl w2.heap.size w2).drew.alloc (Nat.le_refl _) _).trans (hb3.mono (by simp))
    have hB3 := HBB.out.trans (hb3'.mono HBB.out.size)
    have hr := row_new w2.drew (⟨8, 0, noSet, x.lo, x.hi⟩)
    rw [HLC.out] at hr
    have ho3' := ho3.mono (base' := w.heap.size) (by have := HBB.out.size; simp; omega)
    obtain ⟨v4, w4, hr4, ho4, hg4⟩ := append_lexs w3 w.heap.size _ v3 _ lz [⟨8, 0, noSet, x.lo, x.hi⟩] ho3' (own_below hr hb3) (by simp; omega) hB3.size
    have hKl3 : ∀ c, (c = w.heap.size ∨ c = b ∨ c = w.heap.size + 1 + 1) → c < (w2.drew.alloc (.cells #[.int .i64 8, .int .i64 0, .int .u64 0, .int .u64 0, .int .u64 0, .int .u64 0, .int .i64 x.lo, .int .i64 x.hi] 58)).heap.size := fun c hc => by have := hKl c hc; simp; omega
    have HK3 := Lib.hid (KeepP.below HK2.out hb3 hKl3)
    have HK4 := Lib.hid (KeepP.grown HK3.out hg4 (fun c hc => ⟨Nat.lt_of_lt_of_le (hKl c hc) hb3'.size, fun e => by have := (ho3.lt c e.symm).1; have := hKl3 c hc; omega⟩))
    dsimp only
    have HR4 := Lib.hid hr4
    have HF4 := Lib.hid (show _ ∧ _ from ⟨grown_since hB3 ho3' hg4, ho4⟩)
    clear hr4 ho4 hg4
    refine hK.out _ _ HK3.out (fun _ => ?_); clear hK K
    try simp only [Act.put, List.getElem_toArray, List.getElem_cons_zero, List.getElem_cons_succ, List.setIfInBounds_toArray, List.set_cons_zero, List.set_cons_succ]

    refine wpAnyH_ready (rs := [9]) (by kernel_rfl) (by simp) ?_
    refine AllReadyH.cons (o := _) rfl (fun K hK => ?_) AllReadyH.nil

    refine step_append_by (by rfl) _ _ _ _ rfl _ _ _ _ rfl rfl HR4.out ?_
    refine hK.out _ _ HK4.out (fun _ => ?_)
    clear hK K
    try simp only [Act.put, List.getElem_toArray, List.getElem_cons_zero, List.getElem_cons_succ, List.setIfInBounds_toArray, List.set_cons_zero, List.set_cons_succ]

    refine wpAnyH_take (i := 10) (oi := _) (v := ?_) rfl (by kernel_rfl) (by kernel_rfl) (by kernel_rfl) (fun _ _ _ h => h) (Or.inl ⟨by kernel_rfl, ?_⟩) (by assumption) ?_
    rotate_left
    · intro w hSw
      try dsimp only at hSw
      go_simp
      try (with_reducible rfl)
    try simp only [Act.put, List.getElem_toArray, List.getElem_cons_zero, List.getElem_cons_succ, List.setIfInBounds_toArray, List.set_cons_zero, List.set_cons_succ]

    refine wpAnyH_done (by kernel_rfl) ?_ _
    go_wp2
    go_light
    go_ret
    exact ⟨_, rfl, HF4.out.1, HF4.out.2⟩

set_option maxHeartbeats 8000000 in
theorem rwrite_onep (x : Nd) (hK : ∀ z ∈ x.kids.list, RWriteC z) (P : Nat → Prop) (B : Option Addr) (cap : Nat) (w : World) (ht : TreesAt w P x.kids B) (hl : x.write.length ≤ 40000000) (hkl : x.kids.len ≤ 140737488355328) (hk1 : x.kids.len = 1) (hlo : x.lo = 0) (hhi : x.hi = 0) (h6 : 6 ≤ x.kind) (h8 : x.kind ≤ 8) : Calls Tryz.prog 19 #[ndV x B cap] w (RowOut x.write w) := by
  obtain ⟨z, hz1, hz⟩ := one_kid hk1
  rw [Nd.write_post ⟨h6, h8⟩, Trees.writes_head hz] at hl ⊢
  have hlk : (kidS x.kind (z.kind, z.write)).length + 1 ≤ 40000000 := by
    simp only [List.length_append, List.length_cons, List.length_nil] at hl
    omega
  have hlz : z.write.length ≤ 40000000 := by
    have : z.write.length ≤ (kidS x.kind (z.kind, z.write)).length := by
      unfold kidS
      split
      · simp; omega
      · exact Nat.le_refl _
    omega
  obtain ⟨b, o, C, capc, rfl, _, _, hn0, hkz0⟩ := ht.get hz
  have hbw : b < w.heap.size := World.block_lt_of_cell? w _ hn0.1
  have HKZ := Lib.hid hkz0
  have HN0 := Lib.hid hn0
  have HW := Lib.hid (hK z (List.mem_of_getElem? hz))
  have HK1 := Lib.hid hk1
  clear hk1 hK ht hkz0 hn0 hz hz1 hl
  unfold ndV
  rw [hlo, hhi]
  have HX0 := Lib.hid (show Blk (((w.alloc (.cells #[.int .i64 x.kind, .int .u64 ((word (x.set.testBit) 0 : Nat) : Int), .int .u64 ((word (x.set.testBit) 1 : Nat) : Int), .int .u64 ((word (x.set.testBit) 2 : Nat) : Int), .int .u64 ((word (x.set.testBit) 3 : Nat) : Int), .slice (some ⟨b, o, none⟩) x.kids.len cap, .int .i64 0, .int .i64 0] 28)).alloc (.cells #[] 58)).alloc (.cells #[.int .i64 (x.kind - 1), .int .i64 0, .int .u64 0, .int .u64 0, .int .u64 0, .int .u64 0, .int .i64 0, .int .i64 0] 58)) w.heap.size 28 _ ∧ Blk (((w.alloc (.cells #[.int .i64 x.kind, .int .u64 ((word (x.set.testBit) 0 : Nat) : Int), .int .u64 ((word (x.set.testBit) 1 : Nat) : Int), .int .u64 ((word (x.set.testBit) 2 : Nat) : Int), .int .u64 ((word (x.set.testBit) 3 : Nat) : Int), .slice (some ⟨b, o, none⟩) x.kids.len cap, .int .i64 0, .int .i64 0] 28)).alloc (.cells #[] 58)).alloc (.cells #[.int .i64 (x.kind - 1), .int .i64 0, .int .u64 0, .int .u64 0, .int .u64 0, .int .u64 0, .int .i64 0, .int .i64 0] 58)) (w.heap.size + 1 + 1) 58 #[.int .i64 (x.kind - 1), .int .i64 0, .int .u64 0, .int .u64 0, .int .u64 0, .int .u64 0, .int .i64 0, .int .i64 0] ∧ Below w.heap.size w (((w.alloc (.cells #[.int .i64 x.kind, .int .u64 ((word (x.set.testBit) 0 : Nat) : Int), .int .u64 ((word (x.set.testBit) 1 : Nat) : Int), .int .u64 ((word (x.set.testBit) 2 : Nat) : Int), .int .u64 ((word (x.set.testBit) 3 : Nat) : Int), .slice (some ⟨b, o, none⟩) x.kids.len cap, .int .i64 0, .int .i64 0] 28)).alloc (.cells #[] 58)).alloc (.cells #[.int .i64 (x.kind - 1), .int .i64 0, .int .u64 0, .int .u64 0, .int .u64 0, .int .u64 0, .int .i64 0, .int .i64 0] 58)) from ⟨((Blk.new w _ _).alloc _).alloc _, Blk.new_at (by simp), (((Below.refl w.heap.size w).alloc (Nat.le_refl _) _).alloc (by simp) _).alloc (by simp; omega) _⟩)
  have q1 := beqF (show x.kind ≠ 1 by omega)
  have q3 := beqF (show x.kind ≠ 3 by omega)
  have q2 := beqF (show x.kind ≠ 2 by omega)
  have q5 := beqF (show x.kind ≠ 5 by omega)
  have q4 := beqF (show x.kind ≠ 4 by omega)
  have q9 := bneT (show x.kind ≠ 9 by omega)
  have qa : IntKind.i64.wrap (x.kind - 6) = x.kind - 6 := IntWalk.i64_in _ (by omega)
  have qb : IntKind.i64.wrap (5 + (x.kind - 6)) = x.kind - 1 := by rw [IntWalk.i64_in _ (by omega)]; omega
  go_enter Tryz.func19, Tryz.ntmps19
  go_upto_region 20 with fail
  generalize (((w.alloc (.cells #[.int .i64 x.kind, .int .u64 ((word (x.set.testBit) 0 : Nat) : Int), .int .u64 ((word (x.set.testBit) 1 : Nat) : Int), .int .u64 ((word (x.set.testBit) 2 : Nat) : Int), .int .u64 ((word (x.set.testBit) 3 : Nat) : Int), .slice (some ⟨b, o, none⟩) x.kids.len cap, .int .i64 0, .int .i64 0] 28)).alloc (.cells #[] 58)).alloc (.cells #[.int .i64 (x.kind - 1), .int .i64 0, .int .u64 0, .int .u64 0, .int .u64 0, .int .u64 0, .int .i64 0, .int .i64 0] 58)) = w2 at *
  have hk1 := HK1.out
  have hX := HX0.out.1
  have hY := HX0.out.2.1
  have hBB := HX0.out.2.2
  obtain ⟨c0, c1, c2, c3, c4, c5, c6, c7⟩ := HN0.out.keep (w' := w2) (fun o' => hBB.cell (p := ⟨b, o', none⟩) hbw)
  simp only [Nat.zero_mul, Nat.add_zero] at c0 c1 c2 c3 c4 c5 c6 c7
  have n0 := (hX).cell 0
  have n1 := (hX).cell 1
  have n2 := (hX).cell 2
  have n3 := (hX).cell 3
  have n4 := (hX).cell 4
  have n5 := (hX).cell 5
  have n6 := (hX).cell 6
  have n7 := (hX).cell 7
  have hlx := (hX).lt
  simp only [List.getElem?_toArray, List.getElem?_cons_zero, List.getElem?_cons_succ] at n0 n1 n2 n3 n4 n5 n6 n7
  have y0 := hY.cell 0
  have y1 := hY.cell 1
  have y2 := hY.cell 2
  have y3 := hY.cell 3
  have y4 := hY.cell 4
  have y5 := hY.cell 5
  have y6 := hY.cell 6
  have y7 := hY.cell 7
  have hly := hY.lt
  simp only [List.getElem?_toArray, List.getElem?_cons_zero, List.getElem?_cons_succ] at y0 y1 y2 y3 y4 y5 y6 y7
  have hlb : b < w2.heap.size := Nat.lt_of_lt_of_le hbw hBB.size
  have hKl := three_of (Q := fun c => c < w2.heap.size) hlx hlb hly
  have HC := Lib.hid (rkid_go x.kind z C capc P w2.drew ((HKZ.out.below hBB).below (Below.refl _ _).drew) HW.out hlz)
  have HD := Lib.hid (rkid_go x.kind z C capc P (w2.drew.alloc (.cells #[.int .i64 (x.kind - 1), .int .i64 0, .int .u64 0, .int .u64 0, .int .u64 0, .int .u64 0, .int .i64 0, .int .i64 0] 58)) ((HKZ.out.below hBB).below ((Below.refl _ _).drew.alloc (Nat.le_refl _) _)) HW.out hlz)
  have HBB := Lib.hid hBB
  have HLC := Lib.hid (show lexCell (lexK (x.kind - 1)) = [.int .i64 (x.kind - 1), .int .i64 0, .int .u64 0, .int .u64 0, .int .u64 0, .int .u64 0, .int .i64 0, .int .i64 0] from rfl)
  unfold ndV at HC HD
  clear hX hY hBB HX0 HKZ HN0 HW
  generalize kidS x.kind (z.kind, z.write) = lz at *
  refine wp_region_held_drew (S := fun w' => ∀ b' o', (b' = w.heap.size ∨ b' = b ∨ b' = w.heap.size + 1 + 1) → w'.cell? ⟨b', o', none⟩ = w2.cell? ⟨b', o', none⟩) (by kernel_rfl) (KeepP.start (fun c => c = w.heap.size ∨ c = b ∨ c = w.heap.size + 1 + 1) w2) (fun hHeld => ?_)
  refine wpAnyH_take (i := 0) (oi := _) (v := ?_) rfl (by kernel_rfl) (by kernel_rfl) (by kernel_rfl) (fun _ _ _ h => h) (Or.inl ⟨by kernel_rfl, ?_⟩) (by assumption) ?_
  rotate_left
  · intro w hSw
    try dsimp only at hSw
    go_simp
    try (with_reducible rfl)
  try simp only [Act.put, List.getElem_toArray, List.getElem_cons_zero, List.getElem_cons_succ, List.setIfInBounds_toArray, List.set_cons_zero, List.set_cons_succ]
  refine wpAnyH_take (i := 1) (oi := _) (v := ?_) rfl (by kernel_rfl) (by kernel_rfl) (by kernel_rfl) (fun _ _ _ h => h) (Or.inl ⟨by kernel_rfl, ?_⟩) (by assumption) ?_
  rotate_left
  · intro w hSw
    try dsimp only at hSw
    go_simp
    try (with_reducible rfl)
  try simp only [Act.put, List.getElem_toArray, List.getElem_cons_zero, List.getElem_cons_succ, List.setIfInBounds_toArray, List.set_cons_zero, List.set_cons_succ]
  refine wpAnyH_take (i := 2) (oi := _) (v := ?_) rfl (by kernel_rfl) (by kernel_rfl) (by kernel_rfl) (fun _ _ _ h => h) (Or.inl ⟨by kernel_rfl, ?_⟩) (by assumption) ?_
  rotate_left
  · intro w hSw
    try dsimp only at hSw
    go_simp
    try (with_reducible rfl)
  try simp only [Act.put, List.getElem_toArray, List.getElem_cons_zero, List.getElem_cons_succ, List.setIfInBounds_toArray, List.set_cons_zero, List.set_cons_succ]
  refine wpAnyH_take (i := 3) (oi := _) (v := ?_) rfl (by kernel_rfl) (by kernel_rfl) (by kernel_rfl) (fun _ _ _ h => h) (Or.inl ⟨by kernel_rfl, ?_⟩) (by assumption) ?_
  rotate_left
  · intro w hSw
    try dsimp only at hSw
    go_simp
    try (with_reducible rfl)
  try simp only [Act.put, List.getElem_toArray, List.getElem_cons_zero, List.getElem_cons_succ, List.setIfInBounds_toArray, List.set_cons_zero, List.set_cons_succ]
  refine wpAnyH_take (i := 4) (oi := _) (v := ?_) rfl (by kernel_rfl) (by kernel_rfl) (by kernel_rfl) (fun _ _ _ h => h) (Or.inl ⟨by kernel_rfl, ?_⟩) (by assumption) ?_
  rotate_left
  · intro w hSw
    try dsimp only at hSw
    go_simp
    try (with_reducible rfl)
  try simp only [Act.put, List.getElem_toArray, List.getElem_cons_zero, List.getElem_cons_succ, List.setIfInBounds_toArray, List.set_cons_zero, List.set_cons_succ]
  refine wpAnyH_take (i := 5) (oi := _) (v := ?_) rfl (by kernel_rfl) (by kernel_rfl) (by kernel_rfl) (fun _ _ _ h => h) (Or.inl ⟨by kernel_rfl, ?_⟩) (by assumption) ?_
  rotate_left
  · intro w hSw
    try dsimp only at hSw
    go_simp
    try (with_reducible rfl)
  try simp only [Act.put, List.getElem_toArray, List.getElem_cons_zero, List.getElem_cons_succ, List.setIfInBounds_toArray, List.set_cons_zero, List.set_cons_succ]
  refine wpAnyH_take (i := 7) (oi := _) (v := ?_) rfl (by kernel_rfl) (by kernel_rfl) (by kernel_rfl) (fun _ _ _ h => h) (Or.inl ⟨by kernel_rfl, ?_⟩) (by assumption) ?_
  rotate_left
  · intro w hSw
    try dsimp only at hSw
    go_simp
    try (with_reducible rfl)
  try simp only [Act.put, List.getElem_toArray, List.getElem_cons_zero, List.getElem_cons_succ, List.setIfInBounds_toArray, List.set_cons_zero, List.set_cons_succ]
  refine wpAnyH_ready (rs := [6, 8]) (by kernel_rfl) (by simp) ?_
  refine AllReadyH.cons (o := _) rfl (fun K hK => ?_) (AllReadyH.cons (o := _) rfl (fun K hK => ?_) AllReadyH.nil)
  · skip
    go_simp
    go_at_call 42
    refine HC.out.mono ?_
    rintro e w3 ⟨v3, rfl, hb3, ho3⟩
    have hb3' : Below w2.heap.size w2 w3 := (Below.refl w2.heap.size w2).drew.trans hb3
    have hB3 := HBB.out.trans (hb3'.mono HBB.out.size)
    have hr := row_new w3 (lexK (x.kind - 1))
    rw [HLC.out] at hr
    obtain ⟨v4, w4, hr4, ho4, hg4⟩ := append_lexs (w3.alloc (.cells #[.int .i64 (x.kind - 1), .int .i64 0, .int .u64 0, .int .u64 0, .int .u64 0, .int .u64 0, .int .i64 0, .int .i64 0] 58)) w.heap.size _ v3 _ lz [lexK (x.kind - 1)] ((ho3.mono (base' := w.heap.size) HBB.out.size).alloc _) hr (by simp; omega) (by rw [World.size_alloc]; have := hB3.size; omega)
    have HK3 := Lib.hid (KeepP.below (KeepP.start (fun c => c = w.heap.size ∨ c = b ∨ c = w.heap.size + 1 + 1) w2) hb3 hKl)
    have hKl3 : ∀ c, (c = w.heap.size ∨ c = b ∨ c = w.heap.size + 1 + 1) → c < w3.heap.size := fun c hc => Nat.lt_of_lt_of_le (hKl c hc) hb3'.size
    have HK3' := Lib.hid (KeepP.alloc HK3.out hKl3 (.cells #[.int .i64 (x.kind - 1), .int .i64 0, .int .u64 0, .int .u64 0, .int .u64 0, .int .u64 0, .int .i64 0, .int .i64 0] 58))
    have HK4 := Lib.hid (KeepP.grown HK3'.out hg4 (fun c hc => ⟨by rw [World.size_alloc]; have := hKl3 c hc; omega, fun e => by have := (ho3.lt c e.symm).1; have := hKl c hc; have hd : w2.drew.heap.size = w2.heap.size := rfl; omega⟩))
    dsimp only
    refine hK.out _ _ HK3.out (fun _ => ?_)
    clear hK K hHeld
    try simp only [Act.put, List.getElem_toArray, List.getElem_cons_zero, List.getElem_cons_succ, List.setIfInBounds_toArray, List.set_cons_zero, List.set_cons_succ]
    refine wpAnyH_ready (rs := [8]) (by kernel_rfl) (by simp) ?_
    refine AllReadyH.cons (o := _) rfl (fun K hK => ?_) AllReadyH.nil
    go_simp
    have HR4 := Lib.hid hr4
    have HF4 := Lib.hid (show _ ∧ _ from ⟨grown_since (hB3.alloc hB3.size _) ((ho3.mono (base' := w.heap.size) HBB.out.size).alloc _) hg4, ho4⟩)
    clear hr4 ho4 hg4
    refine hK.out _ _ HK3'.out (fun _ => ?_); clear hK K
    try simp only [Act.put, List.getElem_toArray, List.getElem_cons_zero, List.getElem_cons_succ, List.setIfInBounds_toArray, List.set_cons_zero, List.set_cons_succ]

    refine wpAnyH_ready (rs := [9]) (by kernel_rfl) (by simp) ?_
    refine AllReadyH.cons (o := _) rfl (fun K hK => ?_) AllReadyH.nil

    refine step_append_by (by rfl) _ _ _ _ rfl _ _ _ _ rfl rfl HR4.out ?_
    refine hK.out _ _ HK4.out (fun _ => ?_)
    clear hK K
    try simp only [Act.put, List.getElem_toArray, List.getElem_cons_zero, List.getElem_cons_succ, List.setIfInBounds_toArray, List.set_cons_zero, List.set_cons_succ]

    refine wpAnyH_take (i := 10) (oi := _) (v := ?_) rfl (by kernel_rfl) (by kernel_rfl) (by kernel_rfl) (fun _ _ _ h => h) (Or.inl ⟨by kernel_rfl, ?_⟩) (by assumption) ?_
    rotate_left
    · intro w hSw
      try dsimp only at hSw
      go_simp
      try (with_reducible rfl)
    try simp only [Act.put, List.getElem_toArray, List.getElem_cons_zero, List.getElem_cons_succ, List.setIfInBounds_toArray, List.set_cons_zero, List.set_cons_succ]

    refine wpAnyH_done (by kernel_rfl) ?_ _
    go_wp2
    go_light
    go_ret
    exact ⟨_, rfl, HF4.out.1, HF4.out.2⟩
  · skip
    go_simp
    have HK2 := Lib.hid (KeepP.alloc (KeepP.start (fun c => c = w.heap.size ∨ c = b ∨ c = w.heap.size + 1 + 1) w2) hKl (.cells #[.int .i64 (x.kind - 1), .int .i64 0, .int .u64 0, .int .u64 0, .int .u64 0, .int .u64 0, .int .i64 0, .int .i64 0] 58))
    refine hK.out _ _ HK2.out (fun _ => ?_)
    clear hK K hHeld
    try simp only [Act.put, List.getElem_toArray, List.getElem_cons_zero, List.getElem_cons_succ, List.setIfInBounds_toArray, List.set_cons_zero, List.set_cons_succ]
    refine wpAnyH_ready (rs := [6]) (by kernel_rfl) (by simp) ?_
    refine AllReadyH.cons (o := _) rfl (fun K hK => ?_) AllReadyH.nil
    go_simp
    go_at_call 42
    refine HD.out.mono ?_
    rintro e w3 ⟨v3, rfl, hb3, ho3⟩
    have hb3' : Below w2.heap.size w2 w3 := ((Below.refl w2.heap.size w2).drew.alloc (Nat.le_refl _) _).trans (hb3.mono (by simp))
    have hB3 := HBB.out.trans (hb3'.mono HBB.out.size)
    have hr := row_new w2.drew (lexK (x.kind - 1))
    rw [HLC.out] at hr
    have ho3' := ho3.mono (base' := w.heap.size) (by have := HBB.out.size; simp; omega)
    obtain ⟨v4, w4, hr4, ho4, hg4⟩ := append_lexs w3 w.heap.size _ v3 _ lz [lexK (x.kind - 1)] ho3' (own_below hr hb3) (by simp; omega) hB3.size
    have hKl3 : ∀ c, (c = w.heap.size ∨ c = b ∨ c = w.heap.size + 1 + 1) → c < (w2.drew.alloc (.cells #[.int .i64 (x.kind - 1), .int .i64 0, .int .u64 0, .int .u64 0, .int .u64 0, .int .u64 0, .int .i64 0, .int .i64 0] 58)).heap.size := fun c hc => by have := hKl c hc; simp; omega
    have HK3 := Lib.hid (KeepP.below HK2.out hb3 hKl3)
    have HK4 := Lib.hid (KeepP.grown HK3.out hg4 (fun c hc => ⟨Nat.lt_of_lt_of_le (hKl c hc) hb3'.size, fun e => by have := (ho3.lt c e.symm).1; have := hKl3 c hc; omega⟩))
    dsimp only
    have HR4 := Lib.hid hr4
    have HF4 := Lib.hid (show _ ∧ _ from ⟨grown_since hB3 ho3' hg4, ho4⟩)
    clear hr4 ho4 hg4
    refine hK.out _ _ HK3.out (fun _ => ?_); clear hK K
    try simp only [Act.put, List.getElem_toArray, List.getElem_cons_zero, List.getElem_cons_succ, List.setIfInBounds_toArray, List.set_cons_zero, List.set_cons_succ]

    refine wpAnyH_ready (rs := [9]) (by kernel_rfl) (by simp) ?_
    refine AllReadyH.cons (o := _) rfl (fun K hK => ?_) AllReadyH.nil

    refine step_append_by (by rfl) _ _ _ _ rfl _ _ _ _ rfl rfl HR4.out ?_
    refine hK.out _ _ HK4.out (fun _ => ?_)
    clear hK K
    try simp only [Act.put, List.getElem_toArray, List.getElem_cons_zero, List.getElem_cons_succ, List.setIfInBounds_toArray, List.set_cons_zero, List.set_cons_succ]

    refine wpAnyH_take (i := 10) (oi := _) (v := ?_) rfl (by kernel_rfl) (by kernel_rfl) (by kernel_rfl) (fun _ _ _ h => h) (Or.inl ⟨by kernel_rfl, ?_⟩) (by assumption) ?_
    rotate_left
    · intro w hSw
      try dsimp only at hSw
      go_simp
      try (with_reducible rfl)
    try simp only [Act.put, List.getElem_toArray, List.getElem_cons_zero, List.getElem_cons_succ, List.setIfInBounds_toArray, List.set_cons_zero, List.set_cons_succ]

    refine wpAnyH_done (by kernel_rfl) ?_ _
    go_wp2
    go_light
    go_ret
    exact ⟨_, rfl, HF4.out.1, HF4.out.2⟩

/-- The reference's writing of a node. -/
theorem rwrite_node (x : Nd) (ha : aloneN x = true) (hK : ∀ z ∈ x.kids.list, RWriteC z) (hkl : x.kids.len ≤ 140737488355328) : RWriteC x := fun P B cap w ht hl => by
  obtain ⟨a1, a9, a0, ak1, ak9⟩ := aloneN_kids ha
  have am := (alone_more ha).1
  rcases (show x.kind = 1 ∨ x.kind = 2 ∨ x.kind = 3 ∨ x.kind = 4 ∨ x.kind = 5 ∨ x.kind = 6 ∨ x.kind = 7 ∨ x.kind = 8 ∨ x.kind = 9 by omega) with hk | hk | hk | hk | hk | hk | hk | hk | hk
  · exact rwrite_leaf1 x hK P B cap w ht hl hkl hk
  · exact rwrite_empty x hK P B cap w ht hl hkl hk
  · exact rwrite_leaf3 x hK P B cap w ht hl hkl hk
  · exact rwrite_cat x hK P B cap w ht hl hkl hk
  · exact rwrite_alt x hK P B cap w ht hl hkl hk
  · exact rwrite_onep x hK P B cap w ht hl hkl (a1 (by omega) ak9) (am (by omega)).1 (am (by omega)).2 (by omega) (by omega)
  · exact rwrite_onep x hK P B cap w ht hl hkl (a1 (by omega) ak9) (am (by omega)).1 (am (by omega)).2 (by omega) (by omega)
  · exact rwrite_onep x hK P B cap w ht hl hkl (a1 (by omega) ak9) (am (by omega)).1 (am (by omega)).2 (by omega) (by omega)
  · exact rwrite_one9 x hK P B cap w ht hl hkl hk (a1 (by omega) ak9)
theorem rwrite_all : ∀ (F : Trees), F.size ≤ 100000000 → Okays F → ∀ z ∈ F.list, RWriteC z
  | .nil, _, _, z, hz => by cases hz
  | .cons k s ks lo hi r, hs, ho, z, hz => by
    rw [Trees.list] at hz
    have hks : Okays ks := fun y hy => ho y (by simp [Trees.nodes, hy])
    have hr : Okays r := fun y hy => ho y (by simp [Trees.nodes, hy])
    have hself : aloneN ⟨k, s, ks, lo, hi⟩ = true := ho _ (by simp [Trees.nodes])
    have hsz : ks.size ≤ 100000000 ∧ r.size ≤ 100000000 := by simp only [Trees.size] at hs; omega
    rcases List.mem_cons.1 hz with rfl | hz
    · have hl := Trees.len_size ks
      exact rwrite_node _ hself (rwrite_all ks hsz.1 hks) (by simp only; omega)
    · exact rwrite_all r hsz.2 hr z hz
/-- The reference's writing of a tree that may be. -/
theorem rwrite_go {x : Nd} (h : rightT x = true) : RWriteC x := by
  obtain ⟨h1, h2⟩ := okays_kids h
  have hs := rightT_size h
  unfold Nd.size at hs
  have hl := Trees.len_size x.kids
  exact rwrite_node x h1 (rwrite_all _ (by omega) h2) (by omega)
end Go.Proofs.YtchfipjclbpomaaGreatDoor
