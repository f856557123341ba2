/- Texts of the claim. -/
import Derived.Deep.RegionHeldLaw
import Derived.Test.YtfekpkelmliejaaGreatDoorQZ04
import Derived.Test.YtfekpkelmliejaaGreatDoorQZ05
import Derived.Test.YtfekpkelmliejaaGreatDoorQZ03
import Derived.Test.YtfekpkelmliejaaGreatDoorQZ02
namespace Go.Proofs.YtfekpkelmliejaaGreatDoor
open Go.RowKit
set_option linter.unusedSimpArgs false
set_option linter.unusedVariables false
set_option maxRecDepth 100000
set_option maxHeartbeats 8000000
theorem step_append_by {ops : Array Oper} {o : Oper} {a : Act} {w : World} {K : Act → World → Prop} {Q : Exit → Act → World → Prop} {E : Prop} (hgd : o.guard = none) (sl x : Operand) (t u : TypeId)
  (ho : o.op = .call { callee := .builtin .append, args := #[sl, x], argTypes := #[t, u] }) (v1 v2 v' : Value) (w' : World) (hs : a.eval sl = v1) (hx : a.eval x = v2)
  (hr : (Builtin.append_ #[t, u] o.type #[v1, v2]).run Tryz.prog w = .ok v' w')
  (h : K (a.put o.dst v') w') : if Region.wanted o (yielded ops a.tmps) = true then Oper.wp Tryz.prog o a w K Q else E := by
 have hw : Region.wanted o (yielded ops a.tmps) = true := by simp [Region.wanted, hgd]
 rw [if_pos hw]
 exact wp_append_by sl x t u ho v1 v2 v' w' hs hx hr h
theorem rwrite_leaf1 (x : Nd) (hK : ∀ z ∈ x.kids.list, RWriteC z) (P : Nat → Prop) (B : Option Addr) (cap : Nat) (w : World) (ht : TreesAt w P x.kids B) (hl : x.write.length ≤ 40000000) (hkl : x.kids.len ≤ 140737488355328) (hk : x.kind = 1) : Calls Tryz.prog 176 #[ndV x B cap] w (RowOut x.write w) := by
 rw [Nd.write_leaf (.inl hk)] at hl ⊢
 have HB := Lib.hid ((((Below.refl w.heap.size w).alloc (Nat.le_refl _) (.cells #[.int .i64 1, .int .u64 (word x.set.testBit 0), .int .u64 (word x.set.testBit 1), .int .u64 (word x.set.testBit 2), .int .u64 (word x.set.testBit 3), .slice B x.kids.len cap, .int .i64 x.lo, .int .i64 x.hi] 28)).alloc (by simp) (.cells #[] 139)).alloc (by simp; omega) (.cells (lexCell ⟨1, 0, x.set.testBit, 0, 0⟩).toArray 139))
 have HR := Lib.hid ((row_new ((w.alloc (.cells #[.int .i64 1, .int .u64 (word x.set.testBit 0), .int .u64 (word x.set.testBit 1), .int .u64 (word x.set.testBit 2), .int .u64 (word x.set.testBit 3), .slice B x.kids.len cap, .int .i64 x.lo, .int .i64 x.hi] 28)).alloc (.cells #[] 139)) ⟨1, 0, x.set.testBit, 0, 0⟩).mono (base' := w.heap.size) (by simp; omega))
 have hsz : ((w.alloc (.cells #[.int .i64 1, .int .u64 (word x.set.testBit 0), .int .u64 (word x.set.testBit 1), .int .u64 (word x.set.testBit 2), .int .u64 (word x.set.testBit 3), .slice B x.kids.len cap, .int .i64 x.lo, .int .i64 x.hi] 28)).alloc (.cells #[] 139)).heap.size = w.heap.size + 1 + 1 := by simp
 rw [hsz] at HR
 unfold ndV
 rw [hk]
 clear ht hK hsz
 go_enter Tryz.func176, Tryz.ntmps176
 go_wp2
 go_light
 go_ret
 exact ⟨_, rfl, HB.out, HR.out⟩
theorem rwrite_leaf3 (x : Nd) (hK : ∀ z ∈ x.kids.list, RWriteC z) (P : Nat → Prop) (B : Option Addr) (cap : Nat) (w : World) (ht : TreesAt w P x.kids B) (hl : x.write.length ≤ 40000000) (hkl : x.kids.len ≤ 140737488355328) (hk : x.kind = 3) : Calls Tryz.prog 176 #[ndV x B cap] w (RowOut x.write w) := by
 rw [Nd.write_leaf (.inr hk)] at hl ⊢
 have HB := Lib.hid ((((Below.refl w.heap.size w).alloc (Nat.le_refl _) (.cells #[.int .i64 3, .int .u64 (word x.set.testBit 0), .int .u64 (word x.set.testBit 1), .int .u64 (word x.set.testBit 2), .int .u64 (word x.set.testBit 3), .slice B x.kids.len cap, .int .i64 x.lo, .int .i64 x.hi] 28)).alloc (by simp) (.cells #[] 139)).alloc (by simp; omega) (.cells (lexCell ⟨1, 0, x.set.testBit, 0, 0⟩).toArray 139))
 have HR := Lib.hid ((row_new ((w.alloc (.cells #[.int .i64 3, .int .u64 (word x.set.testBit 0), .int .u64 (word x.set.testBit 1), .int .u64 (word x.set.testBit 2), .int .u64 (word x.set.testBit 3), .slice B x.kids.len cap, .int .i64 x.lo, .int .i64 x.hi] 28)).alloc (.cells #[] 139)) ⟨1, 0, x.set.testBit, 0, 0⟩).mono (base' := w.heap.size) (by simp; omega))
 have hsz : ((w.alloc (.cells #[.int .i64 3, .int .u64 (word x.set.testBit 0), .int .u64 (word x.set.testBit 1), .int .u64 (word x.set.testBit 2), .int .u64 (word x.set.testBit 3), .slice B x.kids.len cap, .int .i64 x.lo, .int .i64 x.hi] 28)).alloc (.cells #[] 139)).heap.size = w.heap.size + 1 + 1 := by simp
 rw [hsz] at HR
 unfold ndV
 rw [hk]
 clear ht hK hsz
 go_enter Tryz.func176, Tryz.ntmps176
 go_wp2
 go_light
 go_ret
 exact ⟨_, rfl, HB.out, HR.out⟩
theorem row_zero (w : World) (base : Nat) (h : base ≤ w.heap.size) : (w.alloc (.cells #[] 139)).ownsRow base 139 8 (.slice (some ⟨w.heap.size, 0, none⟩) 0 0) ([] : List Lex).length (lexCells []) :=
 ⟨rfl, .inr ⟨w.heap.size, 0, #[], rfl, h, heap_alloc_new w _, Nat.le_refl _, Nat.zero_le _, rfl, rfl⟩⟩
theorem rwrite_empty (x : Nd) (hK : ∀ z ∈ x.kids.list, RWriteC z) (P : Nat → Prop) (B : Option Addr) (cap : Nat) (w : World) (ht : TreesAt w P x.kids B) (hl : x.write.length ≤ 40000000) (hkl : x.kids.len ≤ 140737488355328) (hk : x.kind = 2) : Calls Tryz.prog 176 #[ndV x B cap] w (RowOut x.write w) := by
 rw [Nd.write_empty hk] at hl ⊢
 have HB := Lib.hid (((Below.refl w.heap.size w).alloc (Nat.le_refl _) (.cells #[.int .i64 2, .int .u64 (word x.set.testBit 0), .int .u64 (word x.set.testBit 1), .int .u64 (word x.set.testBit 2), .int .u64 (word x.set.testBit 3), .slice B x.kids.len cap, .int .i64 x.lo, .int .i64 x.hi] 28)).alloc (by simp) (.cells #[] 139))
 have HR := Lib.hid (row_zero (w.alloc (.cells #[.int .i64 2, .int .u64 (word x.set.testBit 0), .int .u64 (word x.set.testBit 1), .int .u64 (word x.set.testBit 2), .int .u64 (word x.set.testBit 3), .slice B x.kids.len cap, .int .i64 x.lo, .int .i64 x.hi] 28)) w.heap.size (by simp))
 rw [World.size_alloc] at HR
 unfold ndV
 rw [hk]
 clear ht hK
 go_enter Tryz.func176, Tryz.ntmps176
 go_wp2
 go_light
 go_ret
 exact ⟨_, rfl, HB.out, HR.out⟩
def BFr (w : World) (nd : Array Value) (L : List Lex) (v : Value) (wr : World) : Prop := Blk wr w.heap.size 28 nd ∧ Below w.heap.size w wr ∧ wr.ownsRow w.heap.size 139 8 v L.length (lexCells L)
theorem BFr.start (w : World) (nd : Array Value) : BFr w nd [] (.slice (some ⟨w.heap.size + 1, 0, none⟩) 0 0) ((w.alloc (.cells nd 28)).alloc (.cells #[] 139)) := by
 refine ⟨(Blk.new w _ _).alloc _, ((Below.refl _ _).alloc (Nat.le_refl _) _).alloc (by simp) _, ?_⟩
 have h := row_zero (w.alloc (.cells nd 28)) w.heap.size (by simp)
 rw [World.size_alloc] at h
 exact h
theorem BFr.app {w w1 w2 w3 : World} {nd : Array Value} {L M : List Lex} {v v' v2 : Value} {base2 : Nat} (h : BFr w nd L v w1) (hB : Below w1.heap.size w1 w2) (h2 : w2.ownsRow base2 139 8 v2 M.length (lexCells M)) (h3 : w3.ownsRow w.heap.size 139 8 v' (L ++ M).length (lexCells (L ++ M))) (hg : w2.grownBy w3 v.ownBlock) : BFr w nd (L ++ M) v' w3 := by
 have hne := blk_not_row h.1 (by decide) h.2.2
 have hB2 := h.2.1.trans (hB.mono h.2.1.size)
 exact ⟨(h.1.below hB h.1.lt).grown hg hne, grown_since hB2 (own_below h.2.2 hB) hg, h3⟩
theorem rwrite_cat (x : Nd) (hK : ∀ z ∈ x.kids.list, RWriteC z) (P : Nat → Prop) (B : Option Addr) (cap : Nat) (w : World) (ht : TreesAt w P x.kids B) (hl : x.write.length ≤ 40000000) (hkl : x.kids.len ≤ 140737488355328) (hk : x.kind = 4) : Calls Tryz.prog 176 #[ndV x B cap] w (RowOut x.write w) := by
 rw [Nd.write_cat hk] at hl ⊢
 have HM0 := Lib.hid (show BFr w #[.int .i64 4, .int .u64 (word x.set.testBit 0), .int .u64 (word x.set.testBit 1), .int .u64 (word x.set.testBit 2), .int .u64 (word x.set.testBit 3), .slice B x.kids.len cap, .int .i64 x.lo, .int .i64 x.hi] (((x.kids.writes.take 0).map (kidS 4)).flatten) _ _ from by rw [List.take_zero]; exact BFr.start w #[.int .i64 4, .int .u64 (word x.set.testBit 0), .int .u64 (word x.set.testBit 1), .int .u64 (word x.set.testBit 2), .int .u64 (word x.set.testBit 3), .slice B x.kids.len cap, .int .i64 x.lo, .int .i64 x.hi])
 have HT := Lib.hid ht
 have HK := Lib.hid hK
 unfold ndV
 rw [hk]
 clear ht hK
 go_enter Tryz.func176, Tryz.ntmps176
 go_wp2
 go_loopw [3, 4] (fun vr i' wr => ∃ k : Nat, i' = .int .i64 (k : Int) ∧ k ≤ x.kids.len ∧ Hid (BFr w #[.int .i64 4, .int .u64 (word x.set.testBit 0), .int .u64 (word x.set.testBit 1), .int .u64 (word x.set.testBit 2), .int .u64 (word x.set.testBit 3), .slice B x.kids.len cap, .int .i64 x.lo, .int .i64 x.hi] (((x.kids.writes.take k).map (kidS 4)).flatten) vr wr)) (fun _ i' _ => x.kids.len - (intOf i').toNat)
 case atStart => exact ⟨0, rfl, Nat.zero_le _, HM0⟩
 case round =>
  clear HM0
  obtain ⟨k, rfl, hk, HM⟩ := hrel
  by_cases hlt : k < x.kids.len
  ·obtain ⟨z, hz⟩ : ∃ z, x.kids.list[k]? = some z := ⟨_, List.getElem?_eq_getElem (by rw [Trees.len_list]; exact hlt)⟩
   have hdl : (k : Int) < (x.kids.len : Int) := by omega
   have hsn := cat_snoc hz []
   rw [List.nil_append, List.nil_append] at hsn
   have hle : (((x.kids.writes.take k).map (kidS 4)).flatten).length + (kidS 4 (z.kind, z.write)).length ≤ 40000000 := by
    have h1 := flat_take (x.kids.writes.map (kidS 4)) (k + 1)
    rw [← List.map_take] at h1
    have h2 := congrArg List.length hsn
    rw [List.length_append] at h2
    omega
   have hlz : z.write.length ≤ 40000000 := by
    have : z.write.length ≤ (kidS 4 (z.kind, z.write)).length := by
     unfold kidS
     split
     ·simp; omega
     ·exact Nat.le_refl _
    omega
   have HS := Lib.hid hsn
   have hM := HM.out
   obtain ⟨b, o, C, capc, rfl, _, _, hn0, hkz0⟩ := HT.out.get hz
   have hbw : b < w.heap.size := World.block_lt_of_cell? w _ hn0.1
   have hX := hM.1
   have hBB := hM.2.1
   obtain ⟨c0, c1, c2, c3, c4, c5, c6, c7⟩ := hn0.keep (w' := (wr)) (fun o' => hBB.cell (p := ⟨b, o', none⟩) hbw)
   have HC := Lib.hid (rkid_go 4 z C capc P (wr).drew ((hkz0.below hBB).below (Below.refl _ _).drew) (HK.out z (List.mem_of_getElem? hz)) hlz)
   unfold ndV at HC
   have n0 := (hX).cell 0
   have n1 := (hX).cell 1
   have n2 := (hX).cell 2
   have n3 := (hX).cell 3
   have n4 := (hX).cell 4
   have n5 := (hX).cell 5
   have n6 := (hX).cell 6
   have n7 := (hX).cell 7
   have hlx := (hX).lt
   simp only [List.getElem?_toArray, List.getElem?_cons_zero, List.getElem?_cons_succ] at n0 n1 n2 n3 n4 n5 n6 n7
   have hlb : b < (wr).heap.size := Nat.lt_of_lt_of_le hbw hBB.size
   have hKl := two_of (Q := fun c => c < (wr).heap.size) hlx hlb
   have HF := Lib.hid hM
   have hneg := blk_not_row hX (by decide) hM.2.2
   have hneb : some b ≠ (u3).ownBlock := fun e => by have := (hM.2.2.lt b e.symm).1; omega
   have HNE := Lib.hid (two_of (Q := fun c => c < (wr).heap.size ∧ some c ≠ (u3).ownBlock) ⟨hlx, hneg⟩ ⟨hlb, hneb⟩)
   clear hn0 hkz0 hX hBB hneg hneb
   clear hM HM hz hsn hl hlz
   generalize ((x.kids.writes.take k).map (kidS 4)).flatten = Lk at *
   generalize kidS 4 (z.kind, z.write) = lz at *
   by_cases hdp : (0 : Int) < (k : Int)
   ·skip
    go_upto_region 15 with fail
    refine wp_region_held_drew (S := fun w' => ∀ b' o', b' = w.heap.size ∨ b' = b → w'.cell? ⟨b', o', none⟩ = (wr).cell? ⟨b', o', none⟩) (by kernel_rfl) (KeepP.start (fun c => c = w.heap.size ∨ c = b) (wr)) (fun hHeld => ?_)
    refine wpAnyH_take (i := 0) (oi := _) (v := ?_) rfl (by kernel_rfl) (by kernel_rfl) (by kernel_rfl) (fun _ _ _ h => h) (Or.inl ⟨by kernel_rfl, ?_⟩) (by assumption) ?_
    rotate_left
    ·intro w hSw
     try dsimp only at hSw
     go_simp
     try (with_reducible rfl)
    try simp only [Act.put, List.getElem_toArray, List.getElem_cons_zero, List.getElem_cons_succ, List.setIfInBounds_toArray, List.set_cons_zero, List.set_cons_succ]
    refine wpAnyH_take (i := 1) (oi := _) (v := ?_) rfl (by kernel_rfl) (by kernel_rfl) (by kernel_rfl) (fun _ _ _ h => h) (Or.inl ⟨by kernel_rfl, ?_⟩) (by assumption) ?_
    rotate_left
    ·intro w hSw
     try dsimp only at hSw
     go_simp
     try (with_reducible rfl)
    try simp only [Act.put, List.getElem_toArray, List.getElem_cons_zero, List.getElem_cons_succ, List.setIfInBounds_toArray, List.set_cons_zero, List.set_cons_succ]
    refine wpAnyH_take (i := 2) (oi := _) (v := ?_) rfl (by kernel_rfl) (by kernel_rfl) (by kernel_rfl) (fun _ _ _ h => h) (Or.inl ⟨by kernel_rfl, ?_⟩) (by assumption) ?_
    rotate_left
    ·intro w hSw
     try dsimp only at hSw
     go_simp
     try (with_reducible rfl)
    try simp only [Act.put, List.getElem_toArray, List.getElem_cons_zero, List.getElem_cons_succ, List.setIfInBounds_toArray, List.set_cons_zero, List.set_cons_succ]
    refine wpAnyH_take (i := 3) (oi := _) (v := ?_) rfl (by kernel_rfl) (by kernel_rfl) (by kernel_rfl) (fun _ _ _ h => h) (Or.inl ⟨by kernel_rfl, ?_⟩) (by assumption) ?_
    rotate_left
    ·intro w hSw
     try dsimp only at hSw
     go_simp
     try (with_reducible rfl)
    try simp only [Act.put, List.getElem_toArray, List.getElem_cons_zero, List.getElem_cons_succ, List.setIfInBounds_toArray, List.set_cons_zero, List.set_cons_succ]
    refine wpAnyH_take (i := 4) (oi := _) (v := ?_) rfl (by kernel_rfl) (by kernel_rfl) (by kernel_rfl) (fun _ _ _ h => h) (Or.inl ⟨by kernel_rfl, ?_⟩) (by assumption) ?_
    rotate_left
    ·intro w hSw
     try dsimp only at hSw
     go_simp
     try (with_reducible rfl)
    try simp only [Act.put, List.getElem_toArray, List.getElem_cons_zero, List.getElem_cons_succ, List.setIfInBounds_toArray, List.set_cons_zero, List.set_cons_succ]
    refine wpAnyH_take (i := 5) (oi := _) (v := ?_) rfl (by kernel_rfl) (by kernel_rfl) (by kernel_rfl) (fun _ _ _ h => h) (Or.inl ⟨by kernel_rfl, ?_⟩) (by assumption) ?_
    rotate_left
    ·intro w hSw
     try dsimp only at hSw
     go_simp
     try (with_reducible rfl)
    try simp only [Act.put, List.getElem_toArray, List.getElem_cons_zero, List.getElem_cons_succ, List.setIfInBounds_toArray, List.set_cons_zero, List.set_cons_succ]
    refine wpAnyH_take (i := 6) (oi := _) (v := ?_) rfl (by kernel_rfl) (by kernel_rfl) (by kernel_rfl) (fun _ _ _ h => h) (Or.inl ⟨by kernel_rfl, ?_⟩) (by assumption) ?_
    rotate_left
    ·intro w hSw
     try dsimp only at hSw
     go_simp
     try (with_reducible rfl)
    try simp only [Act.put, List.getElem_toArray, List.getElem_cons_zero, List.getElem_cons_succ, List.setIfInBounds_toArray, List.set_cons_zero, List.set_cons_succ]
    refine wpAnyH_take (i := 7) (oi := _) (v := ?_) rfl (by kernel_rfl) (by kernel_rfl) (by kernel_rfl) (fun _ _ _ h => h) (Or.inl ⟨by kernel_rfl, ?_⟩) (by assumption) ?_
    rotate_left
    ·intro w hSw
     try dsimp only at hSw
     go_simp
     try (with_reducible rfl)
    try simp only [Act.put, List.getElem_toArray, List.getElem_cons_zero, List.getElem_cons_succ, List.setIfInBounds_toArray, List.set_cons_zero, List.set_cons_succ]
    refine wpAnyH_ready (rs := [8]) (by kernel_rfl) (by simp) ?_
    refine AllReadyH.cons (o := _) rfl (fun K hK => ?_) AllReadyH.nil
    go_simp
    go_at_call 213
    refine HC.out.mono ?_
    rintro e w3 ⟨v3, rfl, hb3, ho3⟩
    have hb3' : Below (wr).heap.size (wr) w3 := (Below.refl (wr).heap.size (wr)).drew.trans hb3
    obtain ⟨v4, w4, hr4, ho4, hg4⟩ := append_lexs w3 w.heap.size _ (u3) v3 (Lk) lz (own_below HF.out.2.2 hb3') ho3 (by omega) (HF.out.2.1.trans (hb3'.mono HF.out.2.1.size)).size
    have HR4 := Lib.hid hr4
    have HF4 := Lib.hid (HF.out.app hb3' ho3 ho4 hg4)
    have HK3 := Lib.hid (KeepP.below (KeepP.start (fun c => c = w.heap.size ∨ c = b) (wr)) hb3 hKl)
    have HK4 := Lib.hid (KeepP.grown HK3.out hg4 (fun c hc => ⟨Nat.lt_of_lt_of_le (HNE.out c hc).1 hb3'.size, (HNE.out c hc).2⟩))
    clear hb3 hb3' ho3 hr4 ho4 hg4 HC HF HNE
    dsimp only
    refine hK.out _ _ HK3.out (fun _ => ?_)
    clear hK K hHeld
    try simp only [Act.put, List.getElem_toArray, List.getElem_cons_zero, List.getElem_cons_succ, List.setIfInBounds_toArray, List.set_cons_zero, List.set_cons_succ]
    refine wpAnyH_ready (rs := [9]) (by kernel_rfl) (by simp) ?_
    refine AllReadyH.cons (o := _) rfl (fun K hK => ?_) AllReadyH.nil
    refine step_append_by (by rfl) _ _ _ _ rfl _ _ _ _ rfl rfl HR4.out ?_
    refine hK.out _ _ HK4.out (fun _ => ?_)
    clear hK K
    try simp only [Act.put, List.getElem_toArray, List.getElem_cons_zero, List.getElem_cons_succ, List.setIfInBounds_toArray, List.set_cons_zero, List.set_cons_succ]
    refine wpAnyH_take (i := 10) (oi := _) (v := ?_) rfl (by kernel_rfl) (by kernel_rfl) (by kernel_rfl) (fun _ _ _ h => h) (Or.inl ⟨by kernel_rfl, ?_⟩) (by assumption) ?_
    rotate_left
    ·intro w hSw
     try dsimp only at hSw
     go_simp
     try (with_reducible rfl)
    try simp only [Act.put, List.getElem_toArray, List.getElem_cons_zero, List.getElem_cons_succ, List.setIfInBounds_toArray, List.set_cons_zero, List.set_cons_succ]
    refine wpAnyH_done (by kernel_rfl) ?_ _
    go_wp2
    go_roundw
    case rel =>
     refine ⟨k + 1, by go_num, by omega, Lib.hid ?_⟩
     rw [HS.out]
     exact HF4.out
    case measure => simp [intOf]; omega
   ·skip
    go_upto_region 15 with fail
    refine wp_region_held_drew (S := fun w' => ∀ b' o', b' = w.heap.size ∨ b' = b → w'.cell? ⟨b', o', none⟩ = (wr).cell? ⟨b', o', none⟩) (by kernel_rfl) (KeepP.start (fun c => c = w.heap.size ∨ c = b) (wr)) (fun hHeld => ?_)
    refine wpAnyH_take (i := 0) (oi := _) (v := ?_) rfl (by kernel_rfl) (by kernel_rfl) (by kernel_rfl) (fun _ _ _ h => h) (Or.inl ⟨by kernel_rfl, ?_⟩) (by assumption) ?_
    rotate_left
    ·intro w hSw
     try dsimp only at hSw
     go_simp
     try (with_reducible rfl)
    try simp only [Act.put, List.getElem_toArray, List.getElem_cons_zero, List.getElem_cons_succ, List.setIfInBounds_toArray, List.set_cons_zero, List.set_cons_succ]
    refine wpAnyH_take (i := 1) (oi := _) (v := ?_) rfl (by kernel_rfl) (by kernel_rfl) (by kernel_rfl) (fun _ _ _ h => h) (Or.inl ⟨by kernel_rfl, ?_⟩) (by assumption) ?_
    rotate_left
    ·intro w hSw
     try dsimp only at hSw
     go_simp
     try (with_reducible rfl)
    try simp only [Act.put, List.getElem_toArray, List.getElem_cons_zero, List.getElem_cons_succ, List.setIfInBounds_toArray, List.set_cons_zero, List.set_cons_succ]
    refine wpAnyH_take (i := 2) (oi := _) (v := ?_) rfl (by kernel_rfl) (by kernel_rfl) (by kernel_rfl) (fun _ _ _ h => h) (Or.inl ⟨by kernel_rfl, ?_⟩) (by assumption) ?_
    rotate_left
    ·intro w hSw
     try dsimp only at hSw
     go_simp
     try (with_reducible rfl)
    try simp only [Act.put, List.getElem_toArray, List.getElem_cons_zero, List.getElem_cons_succ, List.setIfInBounds_toArray, List.set_cons_zero, List.set_cons_succ]
    refine wpAnyH_take (i := 3) (oi := _) (v := ?_) rfl (by kernel_rfl) (by kernel_rfl) (by kernel_rfl) (fun _ _ _ h => h) (Or.inl ⟨by kernel_rfl, ?_⟩) (by assumption) ?_
    rotate_left
    ·intro w hSw
     try dsimp only at hSw
     go_simp
     try (with_reducible rfl)
    try simp only [Act.put, List.getElem_toArray, List.getElem_cons_zero, List.getElem_cons_succ, List.setIfInBounds_toArray, List.set_cons_zero, List.set_cons_succ]
    refine wpAnyH_take (i := 4) (oi := _) (v := ?_) rfl (by kernel_rfl) (by kernel_rfl) (by kernel_rfl) (fun _ _ _ h => h) (Or.inl ⟨by kernel_rfl, ?_⟩) (by assumption) ?_
    rotate_left
    ·intro w hSw
     try dsimp only at hSw
     go_simp
     try (with_reducible rfl)
    try simp only [Act.put, List.getElem_toArray, List.getElem_cons_zero, List.getElem_cons_succ, List.setIfInBounds_toArray, List.set_cons_zero, List.set_cons_succ]
    refine wpAnyH_take (i := 5) (oi := _) (v := ?_) rfl (by kernel_rfl) (by kernel_rfl) (by kernel_rfl) (fun _ _ _ h => h) (Or.inl ⟨by kernel_rfl, ?_⟩) (by assumption) ?_
    rotate_left
    ·intro w hSw
     try dsimp only at hSw
     go_simp
     try (with_reducible rfl)
    try simp only [Act.put, List.getElem_toArray, List.getElem_cons_zero, List.getElem_cons_succ, List.setIfInBounds_toArray, List.set_cons_zero, List.set_cons_succ]
    refine wpAnyH_take (i := 6) (oi := _) (v := ?_) rfl (by kernel_rfl) (by kernel_rfl) (by kernel_rfl) (fun _ _ _ h => h) (Or.inl ⟨by kernel_rfl, ?_⟩) (by assumption) ?_
    rotate_left
    ·intro w hSw
     try dsimp only at hSw
     go_simp
     try (with_reducible rfl)
    try simp only [Act.put, List.getElem_toArray, List.getElem_cons_zero, List.getElem_cons_succ, List.setIfInBounds_toArray, List.set_cons_zero, List.set_cons_succ]
    refine wpAnyH_take (i := 7) (oi := _) (v := ?_) rfl (by kernel_rfl) (by kernel_rfl) (by kernel_rfl) (fun _ _ _ h => h) (Or.inl ⟨by kernel_rfl, ?_⟩) (by assumption) ?_
    rotate_left
    ·intro w hSw
     try dsimp only at hSw
     go_simp
     try (with_reducible rfl)
    try simp only [Act.put, List.getElem_toArray, List.getElem_cons_zero, List.getElem_cons_succ, List.setIfInBounds_toArray, List.set_cons_zero, List.set_cons_succ]
    refine wpAnyH_ready (rs := [8]) (by kernel_rfl) (by simp) ?_
    refine AllReadyH.cons (o := _) rfl (fun K hK => ?_) AllReadyH.nil
    go_simp
    go_at_call 213
    refine HC.out.mono ?_
    rintro e w3 ⟨v3, rfl, hb3, ho3⟩
    have hb3' : Below (wr).heap.size (wr) w3 := (Below.refl (wr).heap.size (wr)).drew.trans hb3
    obtain ⟨v4, w4, hr4, ho4, hg4⟩ := append_lexs w3 w.heap.size _ (u3) v3 (Lk) lz (own_below HF.out.2.2 hb3') ho3 (by omega) (HF.out.2.1.trans (hb3'.mono HF.out.2.1.size)).size
    have HR4 := Lib.hid hr4
    have HF4 := Lib.hid (HF.out.app hb3' ho3 ho4 hg4)
    have HK3 := Lib.hid (KeepP.below (KeepP.start (fun c => c = w.heap.size ∨ c = b) (wr)) hb3 hKl)
    have HK4 := Lib.hid (KeepP.grown HK3.out hg4 (fun c hc => ⟨Nat.lt_of_lt_of_le (HNE.out c hc).1 hb3'.size, (HNE.out c hc).2⟩))
    clear hb3 hb3' ho3 hr4 ho4 hg4 HC HF HNE
    dsimp only
    refine hK.out _ _ HK3.out (fun _ => ?_)
    clear hK K hHeld
    try simp only [Act.put, List.getElem_toArray, List.getElem_cons_zero, List.getElem_cons_succ, List.setIfInBounds_toArray, List.set_cons_zero, List.set_cons_succ]
    refine wpAnyH_ready (rs := [9]) (by kernel_rfl) (by simp) ?_
    refine AllReadyH.cons (o := _) rfl (fun K hK => ?_) AllReadyH.nil
    refine step_append_by (by rfl) _ _ _ _ rfl _ _ _ _ rfl rfl HR4.out ?_
    refine hK.out _ _ HK4.out (fun _ => ?_)
    clear hK K
    try simp only [Act.put, List.getElem_toArray, List.getElem_cons_zero, List.getElem_cons_succ, List.setIfInBounds_toArray, List.set_cons_zero, List.set_cons_succ]
    refine wpAnyH_take (i := 10) (oi := _) (v := ?_) rfl (by kernel_rfl) (by kernel_rfl) (by kernel_rfl) (fun _ _ _ h => h) (Or.inl ⟨by kernel_rfl, ?_⟩) (by assumption) ?_
    rotate_left
    ·intro w hSw
     try dsimp only at hSw
     go_simp
     try (with_reducible rfl)
    try simp only [Act.put, List.getElem_toArray, List.getElem_cons_zero, List.getElem_cons_succ, List.setIfInBounds_toArray, List.set_cons_zero, List.set_cons_succ]
    refine wpAnyH_done (by kernel_rfl) ?_ _
    go_wp2
    go_roundw
    case rel =>
     refine ⟨k + 1, by go_num, by omega, Lib.hid ?_⟩
     rw [HS.out]
     exact HF4.out
    case measure => simp [intOf]; omega
  ·obtain rfl : k = x.kids.len := by omega
   have hdl : ¬ ((x.kids.len : Int) < (x.kids.len : Int)) := by omega
   have hF0 := HM.out
   rw [show x.kids.writes.take x.kids.len = x.kids.writes by rw [← Trees.writes_len, List.take_length]] at hF0
   have n0 := (hF0.1).cell 0
   have n1 := (hF0.1).cell 1
   have n2 := (hF0.1).cell 2
   have n3 := (hF0.1).cell 3
   have n4 := (hF0.1).cell 4
   have n5 := (hF0.1).cell 5
   have n6 := (hF0.1).cell 6
   have n7 := (hF0.1).cell 7
   have hlx := (hF0.1).lt
   simp only [List.getElem?_toArray, List.getElem?_cons_zero, List.getElem?_cons_succ] at n0 n1 n2 n3 n4 n5 n6 n7
   have HF0 := Lib.hid hF0
   clear hF0 HM
   go_wp2
   go_light
   go_ret
   exact ⟨_, rfl, HF0.out.2.1, HF0.out.2.2⟩
theorem rwrite_alt (x : Nd) (hK : ∀ z ∈ x.kids.list, RWriteC z) (P : Nat → Prop) (B : Option Addr) (cap : Nat) (w : World) (ht : TreesAt w P x.kids B) (hl : x.write.length ≤ 40000000) (hkl : x.kids.len ≤ 140737488355328) (hk : x.kind = 5) : Calls Tryz.prog 176 #[ndV x B cap] w (RowOut x.write w) := by
 rw [Nd.write_alt hk] at hl ⊢
 have HM0 := Lib.hid (show BFr w #[.int .i64 5, .int .u64 (word x.set.testBit 0), .int .u64 (word x.set.testBit 1), .int .u64 (word x.set.testBit 2), .int .u64 (word x.set.testBit 3), .slice B x.kids.len cap, .int .i64 x.lo, .int .i64 x.hi] (barsS ((x.kids.writes.take 0).map (kidS 5))) _ _ from by rw [List.take_zero]; exact BFr.start w #[.int .i64 5, .int .u64 (word x.set.testBit 0), .int .u64 (word x.set.testBit 1), .int .u64 (word x.set.testBit 2), .int .u64 (word x.set.testBit 3), .slice B x.kids.len cap, .int .i64 x.lo, .int .i64 x.hi])
 have HT := Lib.hid ht
 have HK := Lib.hid hK
 unfold ndV
 rw [hk]
 clear ht hK
 go_enter Tryz.func176, Tryz.ntmps176
 go_wp2
 go_loopw [3, 4] (fun vr i' wr => ∃ k : Nat, i' = .int .i64 (k : Int) ∧ k ≤ x.kids.len ∧ Hid (BFr w #[.int .i64 5, .int .u64 (word x.set.testBit 0), .int .u64 (word x.set.testBit 1), .int .u64 (word x.set.testBit 2), .int .u64 (word x.set.testBit 3), .slice B x.kids.len cap, .int .i64 x.lo, .int .i64 x.hi] (barsS ((x.kids.writes.take k).map (kidS 5))) vr wr)) (fun _ i' _ => x.kids.len - (intOf i').toNat)
 case atStart => exact ⟨0, rfl, Nat.zero_le _, HM0⟩
 case round =>
  clear HM0
  obtain ⟨k, rfl, hk, HM⟩ := hrel
  by_cases hlt : k < x.kids.len
  ·obtain ⟨z, hz⟩ : ∃ z, x.kids.list[k]? = some z := ⟨_, List.getElem?_eq_getElem (by rw [Trees.len_list]; exact hlt)⟩
   have hdl : (k : Int) < (x.kids.len : Int) := by omega
   have htk := bars_take (x.kids.writes.map (kidS 5)) (k + 1)
   rw [← List.map_take] at htk
   have hlz : (kidS 5 (z.kind, z.write)).length ≤ 40000000 → z.write.length ≤ 40000000 := by
    have : z.write.length ≤ (kidS 5 (z.kind, z.write)).length := by
     unfold kidS
     split
     ·simp; omega
     ·exact Nat.le_refl _
    omega
   rcases Nat.eq_zero_or_pos k with h0 | hpos
   ·have hsn : barsS ((x.kids.writes.take (k + 1)).map (kidS 5)) = barsS ((x.kids.writes.take k).map (kidS 5)) ++ kidS 5 (z.kind, z.write) := by
     rw [h0] at hz ⊢
     rw [alt_first hz]
     simp [barsS]
    have hle : (barsS ((x.kids.writes.take k).map (kidS 5))).length + (kidS 5 (z.kind, z.write)).length ≤ 40000000 := by
     rw [hsn, List.length_append] at htk
     omega
    have hdp : ¬ (0 : Int) < (k : Int) := by omega
    have HS := Lib.hid hsn
    have hlz := hlz (by omega)
    have hM := HM.out
    obtain ⟨b, o, C, capc, rfl, _, _, hn0, hkz0⟩ := HT.out.get hz
    have hbw : b < w.heap.size := World.block_lt_of_cell? w _ hn0.1
    have hX := hM.1
    have hBB := hM.2.1
    obtain ⟨c0, c1, c2, c3, c4, c5, c6, c7⟩ := hn0.keep (w' := (wr)) (fun o' => hBB.cell (p := ⟨b, o', none⟩) hbw)
    have HC := Lib.hid (rkid_go 5 z C capc P (wr).drew ((hkz0.below hBB).below (Below.refl _ _).drew) (HK.out z (List.mem_of_getElem? hz)) hlz)
    unfold ndV at HC
    have n0 := (hX).cell 0
    have n1 := (hX).cell 1
    have n2 := (hX).cell 2
    have n3 := (hX).cell 3
    have n4 := (hX).cell 4
    have n5 := (hX).cell 5
    have n6 := (hX).cell 6
    have n7 := (hX).cell 7
    have hlx := (hX).lt
    simp only [List.getElem?_toArray, List.getElem?_cons_zero, List.getElem?_cons_succ] at n0 n1 n2 n3 n4 n5 n6 n7
    have hlb : b < (wr).heap.size := Nat.lt_of_lt_of_le hbw hBB.size
    have hKl := two_of (Q := fun c => c < (wr).heap.size) hlx hlb
    have HF := Lib.hid hM
    have hneg := blk_not_row hX (by decide) hM.2.2
    have hneb : some b ≠ (u3).ownBlock := fun e => by have := (hM.2.2.lt b e.symm).1; omega
    have HNE := Lib.hid (two_of (Q := fun c => c < (wr).heap.size ∧ some c ≠ (u3).ownBlock) ⟨hlx, hneg⟩ ⟨hlb, hneb⟩)
    clear hn0 hkz0 hX hBB hneg hneb
    clear hM HM hz hsn hl hlz htk h0
    generalize barsS ((x.kids.writes.take k).map (kidS 5)) = Lk at *
    generalize kidS 5 (z.kind, z.write) = lz at *
    go_upto_region 15 with fail
    refine wp_region_held_drew (S := fun w' => ∀ b' o', b' = w.heap.size ∨ b' = b → w'.cell? ⟨b', o', none⟩ = (wr).cell? ⟨b', o', none⟩) (by kernel_rfl) (KeepP.start (fun c => c = w.heap.size ∨ c = b) (wr)) (fun hHeld => ?_)
    refine wpAnyH_take (i := 0) (oi := _) (v := ?_) rfl (by kernel_rfl) (by kernel_rfl) (by kernel_rfl) (fun _ _ _ h => h) (Or.inl ⟨by kernel_rfl, ?_⟩) (by assumption) ?_
    rotate_left
    ·intro w hSw
     try dsimp only at hSw
     go_simp
     try (with_reducible rfl)
    try simp only [Act.put, List.getElem_toArray, List.getElem_cons_zero, List.getElem_cons_succ, List.setIfInBounds_toArray, List.set_cons_zero, List.set_cons_succ]
    refine wpAnyH_take (i := 1) (oi := _) (v := ?_) rfl (by kernel_rfl) (by kernel_rfl) (by kernel_rfl) (fun _ _ _ h => h) (Or.inl ⟨by kernel_rfl, ?_⟩) (by assumption) ?_
    rotate_left
    ·intro w hSw
     try dsimp only at hSw
     go_simp
     try (with_reducible rfl)
    try simp only [Act.put, List.getElem_toArray, List.getElem_cons_zero, List.getElem_cons_succ, List.setIfInBounds_toArray, List.set_cons_zero, List.set_cons_succ]
    refine wpAnyH_take (i := 2) (oi := _) (v := ?_) rfl (by kernel_rfl) (by kernel_rfl) (by kernel_rfl) (fun _ _ _ h => h) (Or.inl ⟨by kernel_rfl, ?_⟩) (by assumption) ?_
    rotate_left
    ·intro w hSw
     try dsimp only at hSw
     go_simp
     try (with_reducible rfl)
    try simp only [Act.put, List.getElem_toArray, List.getElem_cons_zero, List.getElem_cons_succ, List.setIfInBounds_toArray, List.set_cons_zero, List.set_cons_succ]
    refine wpAnyH_take (i := 3) (oi := _) (v := ?_) rfl (by kernel_rfl) (by kernel_rfl) (by kernel_rfl) (fun _ _ _ h => h) (Or.inl ⟨by kernel_rfl, ?_⟩) (by assumption) ?_
    rotate_left
    ·intro w hSw
     try dsimp only at hSw
     go_simp
     try (with_reducible rfl)
    try simp only [Act.put, List.getElem_toArray, List.getElem_cons_zero, List.getElem_cons_succ, List.setIfInBounds_toArray, List.set_cons_zero, List.set_cons_succ]
    refine wpAnyH_take (i := 4) (oi := _) (v := ?_) rfl (by kernel_rfl) (by kernel_rfl) (by kernel_rfl) (fun _ _ _ h => h) (Or.inl ⟨by kernel_rfl, ?_⟩) (by assumption) ?_
    rotate_left
    ·intro w hSw
     try dsimp only at hSw
     go_simp
     try (with_reducible rfl)
    try simp only [Act.put, List.getElem_toArray, List.getElem_cons_zero, List.getElem_cons_succ, List.setIfInBounds_toArray, List.set_cons_zero, List.set_cons_succ]
    refine wpAnyH_take (i := 5) (oi := _) (v := ?_) rfl (by kernel_rfl) (by kernel_rfl) (by kernel_rfl) (fun _ _ _ h => h) (Or.inl ⟨by kernel_rfl, ?_⟩) (by assumption) ?_
    rotate_left
    ·intro w hSw
     try dsimp only at hSw
     go_simp
     try (with_reducible rfl)
    try simp only [Act.put, List.getElem_toArray, List.getElem_cons_zero, List.getElem_cons_succ, List.setIfInBounds_toArray, List.set_cons_zero, List.set_cons_succ]
    refine wpAnyH_take (i := 6) (oi := _) (v := ?_) rfl (by kernel_rfl) (by kernel_rfl) (by kernel_rfl) (fun _ _ _ h => h) (Or.inl ⟨by kernel_rfl, ?_⟩) (by assumption) ?_
    rotate_left
    ·intro w hSw
     try dsimp only at hSw
     go_simp
     try (with_reducible rfl)
    try simp only [Act.put, List.getElem_toArray, List.getElem_cons_zero, List.getElem_cons_succ, List.setIfInBounds_toArray, List.set_cons_zero, List.set_cons_succ]
    refine wpAnyH_take (i := 7) (oi := _) (v := ?_) rfl (by kernel_rfl) (by kernel_rfl) (by kernel_rfl) (fun _ _ _ h => h) (Or.inl ⟨by kernel_rfl, ?_⟩) (by assumption) ?_
    rotate_left
    ·intro w hSw
     try dsimp only at hSw
     go_simp
     try (with_reducible rfl)
    try simp only [Act.put, List.getElem_toArray, List.getElem_cons_zero, List.getElem_cons_succ, List.setIfInBounds_toArray, List.set_cons_zero, List.set_cons_succ]
    refine wpAnyH_ready (rs := [8]) (by kernel_rfl) (by simp) ?_
    refine AllReadyH.cons (o := _) rfl (fun K hK => ?_) AllReadyH.nil
    go_simp
    go_at_call 213
    refine HC.out.mono ?_
    rintro e w3 ⟨v3, rfl, hb3, ho3⟩
    have hb3' : Below (wr).heap.size (wr) w3 := (Below.refl (wr).heap.size (wr)).drew.trans hb3
    obtain ⟨v4, w4, hr4, ho4, hg4⟩ := append_lexs w3 w.heap.size _ (u3) v3 (Lk) lz (own_below HF.out.2.2 hb3') ho3 (by omega) (HF.out.2.1.trans (hb3'.mono HF.out.2.1.size)).size
    have HR4 := Lib.hid hr4
    have HF4 := Lib.hid (HF.out.app hb3' ho3 ho4 hg4)
    have HK3 := Lib.hid (KeepP.below (KeepP.start (fun c => c = w.heap.size ∨ c = b) (wr)) hb3 hKl)
    have HK4 := Lib.hid (KeepP.grown HK3.out hg4 (fun c hc => ⟨Nat.lt_of_lt_of_le (HNE.out c hc).1 hb3'.size, (HNE.out c hc).2⟩))
    clear hb3 hb3' ho3 hr4 ho4 hg4 HC HF HNE
    dsimp only
    refine hK.out _ _ HK3.out (fun _ => ?_)
    clear hK K hHeld
    try simp only [Act.put, List.getElem_toArray, List.getElem_cons_zero, List.getElem_cons_succ, List.setIfInBounds_toArray, List.set_cons_zero, List.set_cons_succ]
    refine wpAnyH_ready (rs := [9]) (by kernel_rfl) (by simp) ?_
    refine AllReadyH.cons (o := _) rfl (fun K hK => ?_) AllReadyH.nil
    refine step_append_by (by rfl) _ _ _ _ rfl _ _ _ _ rfl rfl HR4.out ?_
    refine hK.out _ _ HK4.out (fun _ => ?_)
    clear hK K
    try simp only [Act.put, List.getElem_toArray, List.getElem_cons_zero, List.getElem_cons_succ, List.setIfInBounds_toArray, List.set_cons_zero, List.set_cons_succ]
    refine wpAnyH_take (i := 10) (oi := _) (v := ?_) rfl (by kernel_rfl) (by kernel_rfl) (by kernel_rfl) (fun _ _ _ h => h) (Or.inl ⟨by kernel_rfl, ?_⟩) (by assumption) ?_
    rotate_left
    ·intro w hSw
     try dsimp only at hSw
     go_simp
     try (with_reducible rfl)
    try simp only [Act.put, List.getElem_toArray, List.getElem_cons_zero, List.getElem_cons_succ, List.setIfInBounds_toArray, List.set_cons_zero, List.set_cons_succ]
    refine wpAnyH_done (by kernel_rfl) ?_ _
    go_wp2
    go_roundw
    case rel =>
     refine ⟨k + 1, by go_num, by omega, Lib.hid ?_⟩
     rw [HS.out]
     exact HF4.out
    case measure => simp [intOf]; omega
   ·have hsn := alt_snoc hz hpos
    have hle : (barsS ((x.kids.writes.take k).map (kidS 5)) ++ [lexK 4]).length + (kidS 5 (z.kind, z.write)).length ≤ 40000000 := by
     rw [hsn, List.length_append] at htk
     omega
    have hdp : (0 : Int) < (k : Int) := by omega
    have HS := Lib.hid hsn
    have hlz := hlz (by omega)
    generalize barsS ((x.kids.writes.take k).map (kidS 5)) = Lk at *
    have hle0 : Lk.length ≤ 40000000 := by rw [List.length_append] at hle; omega
    obtain ⟨v2, w2, hr2, ho2, hg2⟩ := append_lexs (wr.alloc (.cells (lexCell (lexK 4)).toArray 139)) w.heap.size wr.heap.size u3 (.slice (some ⟨wr.heap.size, 0, none⟩) 1 1) Lk [lexK 4] (HM.out.2.2.alloc _) (row_new wr (lexK 4)) (by simp; omega) (by rw [World.size_alloc]; have := HM.out.2.1.size; omega)
    have HR2 := Lib.hid hr2
    have HF2 := Lib.hid (HM.out.app ((Below.refl _ _).alloc (Nat.le_refl _) (.cells (lexCell (lexK 4)).toArray 139)) (row_new wr (lexK 4)) ho2 hg2)
    clear hr2 ho2 hg2
    have hX0 := HM.out.1
    have n0 := (hX0).cell 0
    have n1 := (hX0).cell 1
    have n2 := (hX0).cell 2
    have n3 := (hX0).cell 3
    have n4 := (hX0).cell 4
    have n5 := (hX0).cell 5
    have n6 := (hX0).cell 6
    have n7 := (hX0).cell 7
    have hlx := (hX0).lt
    simp only [List.getElem?_toArray, List.getElem?_cons_zero, List.getElem?_cons_succ] at n0 n1 n2 n3 n4 n5 n6 n7
    clear hX0
    go_upto_region 15 with (at_builtin; refine wpList_append_by (by rfl) _ _ _ _ rfl _ _ _ _ rfl rfl HR2.out ?_)
    clear n0 n1 n2 n3 n4 n5 n6 n7 hlx
    have hM := HF2.out
    obtain ⟨b, o, C, capc, rfl, _, _, hn0, hkz0⟩ := HT.out.get hz
    have hbw : b < w.heap.size := World.block_lt_of_cell? w _ hn0.1
    have hX := hM.1
    have hBB := hM.2.1
    obtain ⟨c0, c1, c2, c3, c4, c5, c6, c7⟩ := hn0.keep (w' := (w2)) (fun o' => hBB.cell (p := ⟨b, o', none⟩) hbw)
    have HC := Lib.hid (rkid_go 5 z C capc P (w2).drew ((hkz0.below hBB).below (Below.refl _ _).drew) (HK.out z (List.mem_of_getElem? hz)) hlz)
    unfold ndV at HC
    have n0 := (hX).cell 0
    have n1 := (hX).cell 1
    have n2 := (hX).cell 2
    have n3 := (hX).cell 3
    have n4 := (hX).cell 4
    have n5 := (hX).cell 5
    have n6 := (hX).cell 6
    have n7 := (hX).cell 7
    have hlx := (hX).lt
    simp only [List.getElem?_toArray, List.getElem?_cons_zero, List.getElem?_cons_succ] at n0 n1 n2 n3 n4 n5 n6 n7
    have hlb : b < (w2).heap.size := Nat.lt_of_lt_of_le hbw hBB.size
    have hKl := two_of (Q := fun c => c < (w2).heap.size) hlx hlb
    have HF := Lib.hid hM
    have hneg := blk_not_row hX (by decide) hM.2.2
    have hneb : some b ≠ (v2).ownBlock := fun e => by have := (hM.2.2.lt b e.symm).1; omega
    have HNE := Lib.hid (two_of (Q := fun c => c < (w2).heap.size ∧ some c ≠ (v2).ownBlock) ⟨hlx, hneg⟩ ⟨hlb, hneb⟩)
    clear hn0 hkz0 hX hBB hneg hneb
    clear hM HM HF2 HR2 hz hsn hl hlz htk hle0
    generalize kidS 5 (z.kind, z.write) = lz at *
    refine wp_region_held_drew (S := fun w' => ∀ b' o', b' = w.heap.size ∨ b' = b → w'.cell? ⟨b', o', none⟩ = (w2).cell? ⟨b', o', none⟩) (by kernel_rfl) (KeepP.start (fun c => c = w.heap.size ∨ c = b) (w2)) (fun hHeld => ?_)
    refine wpAnyH_take (i := 0) (oi := _) (v := ?_) rfl (by kernel_rfl) (by kernel_rfl) (by kernel_rfl) (fun _ _ _ h => h) (Or.inl ⟨by kernel_rfl, ?_⟩) (by assumption) ?_
    rotate_left
    ·intro w hSw
     try dsimp only at hSw
     go_simp
     try (with_reducible rfl)
    try simp only [Act.put, List.getElem_toArray, List.getElem_cons_zero, List.getElem_cons_succ, List.setIfInBounds_toArray, List.set_cons_zero, List.set_cons_succ]
    refine wpAnyH_take (i := 1) (oi := _) (v := ?_) rfl (by kernel_rfl) (by kernel_rfl) (by kernel_rfl) (fun _ _ _ h => h) (Or.inl ⟨by kernel_rfl, ?_⟩) (by assumption) ?_
    rotate_left
    ·intro w hSw
     try dsimp only at hSw
     go_simp
     try (with_reducible rfl)
    try simp only [Act.put, List.getElem_toArray, List.getElem_cons_zero, List.getElem_cons_succ, List.setIfInBounds_toArray, List.set_cons_zero, List.set_cons_succ]
    refine wpAnyH_take (i := 2) (oi := _) (v := ?_) rfl (by kernel_rfl) (by kernel_rfl) (by kernel_rfl) (fun _ _ _ h => h) (Or.inl ⟨by kernel_rfl, ?_⟩) (by assumption) ?_
    rotate_left
    ·intro w hSw
     try dsimp only at hSw
     go_simp
     try (with_reducible rfl)
    try simp only [Act.put, List.getElem_toArray, List.getElem_cons_zero, List.getElem_cons_succ, List.setIfInBounds_toArray, List.set_cons_zero, List.set_cons_succ]
    refine wpAnyH_take (i := 3) (oi := _) (v := ?_) rfl (by kernel_rfl) (by kernel_rfl) (by kernel_rfl) (fun _ _ _ h => h) (Or.inl ⟨by kernel_rfl, ?_⟩) (by assumption) ?_
    rotate_left
    ·intro w hSw
     try dsimp only at hSw
     go_simp
     try (with_reducible rfl)
    try simp only [Act.put, List.getElem_toArray, List.getElem_cons_zero, List.getElem_cons_succ, List.setIfInBounds_toArray, List.set_cons_zero, List.set_cons_succ]
    refine wpAnyH_take (i := 4) (oi := _) (v := ?_) rfl (by kernel_rfl) (by kernel_rfl) (by kernel_rfl) (fun _ _ _ h => h) (Or.inl ⟨by kernel_rfl, ?_⟩) (by assumption) ?_
    rotate_left
    ·intro w hSw
     try dsimp only at hSw
     go_simp
     try (with_reducible rfl)
    try simp only [Act.put, List.getElem_toArray, List.getElem_cons_zero, List.getElem_cons_succ, List.setIfInBounds_toArray, List.set_cons_zero, List.set_cons_succ]
    refine wpAnyH_take (i := 5) (oi := _) (v := ?_) rfl (by kernel_rfl) (by kernel_rfl) (by kernel_rfl) (fun _ _ _ h => h) (Or.inl ⟨by kernel_rfl, ?_⟩) (by assumption) ?_
    rotate_left
    ·intro w hSw
     try dsimp only at hSw
     go_simp
     try (with_reducible rfl)
    try simp only [Act.put, List.getElem_toArray, List.getElem_cons_zero, List.getElem_cons_succ, List.setIfInBounds_toArray, List.set_cons_zero, List.set_cons_succ]
    refine wpAnyH_take (i := 6) (oi := _) (v := ?_) rfl (by kernel_rfl) (by kernel_rfl) (by kernel_rfl) (fun _ _ _ h => h) (Or.inl ⟨by kernel_rfl, ?_⟩) (by assumption) ?_
    rotate_left
    ·intro w hSw
     try dsimp only at hSw
     go_simp
     try (with_reducible rfl)
    try simp only [Act.put, List.getElem_toArray, List.getElem_cons_zero, List.getElem_cons_succ, List.setIfInBounds_toArray, List.set_cons_zero, List.set_cons_succ]
    refine wpAnyH_take (i := 7) (oi := _) (v := ?_) rfl (by kernel_rfl) (by kernel_rfl) (by kernel_rfl) (fun _ _ _ h => h) (Or.inl ⟨by kernel_rfl, ?_⟩) (by assumption) ?_
    rotate_left
    ·intro w hSw
     try dsimp only at hSw
     go_simp
     try (with_reducible rfl)
    try simp only [Act.put, List.getElem_toArray, List.getElem_cons_zero, List.getElem_cons_succ, List.setIfInBounds_toArray, List.set_cons_zero, List.set_cons_succ]
    refine wpAnyH_ready (rs := [8]) (by kernel_rfl) (by simp) ?_
    refine AllReadyH.cons (o := _) rfl (fun K hK => ?_) AllReadyH.nil
    go_simp
    go_at_call 213
    refine HC.out.mono ?_
    rintro e w3 ⟨v3, rfl, hb3, ho3⟩
    have hb3' : Below (w2).heap.size (w2) w3 := (Below.refl (w2).heap.size (w2)).drew.trans hb3
    obtain ⟨v4, w4, hr4, ho4, hg4⟩ := append_lexs w3 w.heap.size _ (v2) v3 (Lk ++ [lexK 4]) lz (own_below HF.out.2.2 hb3') ho3 (by omega) (HF.out.2.1.trans (hb3'.mono HF.out.2.1.size)).size
    have HR4 := Lib.hid hr4
    have HF4 := Lib.hid (HF.out.app hb3' ho3 ho4 hg4)
    have HK3 := Lib.hid (KeepP.below (KeepP.start (fun c => c = w.heap.size ∨ c = b) (w2)) hb3 hKl)
    have HK4 := Lib.hid (KeepP.grown HK3.out hg4 (fun c hc => ⟨Nat.lt_of_lt_of_le (HNE.out c hc).1 hb3'.size, (HNE.out c hc).2⟩))
    clear hb3 hb3' ho3 hr4 ho4 hg4 HC HF HNE
    dsimp only
    refine hK.out _ _ HK3.out (fun _ => ?_)
    clear hK K hHeld
    try simp only [Act.put, List.getElem_toArray, List.getElem_cons_zero, List.getElem_cons_succ, List.setIfInBounds_toArray, List.set_cons_zero, List.set_cons_succ]
    refine wpAnyH_ready (rs := [9]) (by kernel_rfl) (by simp) ?_
    refine AllReadyH.cons (o := _) rfl (fun K hK => ?_) AllReadyH.nil
    refine step_append_by (by rfl) _ _ _ _ rfl _ _ _ _ rfl rfl HR4.out ?_
    refine hK.out _ _ HK4.out (fun _ => ?_)
    clear hK K
    try simp only [Act.put, List.getElem_toArray, List.getElem_cons_zero, List.getElem_cons_succ, List.setIfInBounds_toArray, List.set_cons_zero, List.set_cons_succ]
    refine wpAnyH_take (i := 10) (oi := _) (v := ?_) rfl (by kernel_rfl) (by kernel_rfl) (by kernel_rfl) (fun _ _ _ h => h) (Or.inl ⟨by kernel_rfl, ?_⟩) (by assumption) ?_
    rotate_left
    ·intro w hSw
     try dsimp only at hSw
     go_simp
     try (with_reducible rfl)
    try simp only [Act.put, List.getElem_toArray, List.getElem_cons_zero, List.getElem_cons_succ, List.setIfInBounds_toArray, List.set_cons_zero, List.set_cons_succ]
    refine wpAnyH_done (by kernel_rfl) ?_ _
    go_wp2
    go_roundw
    case rel =>
     refine ⟨k + 1, by go_num, by omega, Lib.hid ?_⟩
     rw [HS.out]
     exact HF4.out
    case measure => simp [intOf]; omega
  ·obtain rfl : k = x.kids.len := by omega
   have hdl : ¬ ((x.kids.len : Int) < (x.kids.len : Int)) := by omega
   have hF0 := HM.out
   rw [show x.kids.writes.take x.kids.len = x.kids.writes by rw [← Trees.writes_len, List.take_length]] at hF0
   have n0 := (hF0.1).cell 0
   have n1 := (hF0.1).cell 1
   have n2 := (hF0.1).cell 2
   have n3 := (hF0.1).cell 3
   have n4 := (hF0.1).cell 4
   have n5 := (hF0.1).cell 5
   have n6 := (hF0.1).cell 6
   have n7 := (hF0.1).cell 7
   have hlx := (hF0.1).lt
   simp only [List.getElem?_toArray, List.getElem?_cons_zero, List.getElem?_cons_succ] at n0 n1 n2 n3 n4 n5 n6 n7
   have HF0 := Lib.hid hF0
   clear hF0 HM
   go_wp2
   go_light
   go_ret
   exact ⟨_, rfl, HF0.out.2.1, HF0.out.2.2⟩
theorem three_of {Q : Nat → Prop} {p q r : Nat} (hp : Q p) (hq : Q q) (hr : Q r) : ∀ b, b = p ∨ b = q ∨ b = r → Q b := by
 rintro b (rfl | rfl | rfl)
 ·exact hp
 ·exact hq
 ·exact hr
theorem rwrite_one9 (x : Nd) (hK : ∀ z ∈ x.kids.list, RWriteC z) (P : Nat → Prop) (B : Option Addr) (cap : Nat) (w : World) (ht : TreesAt w P x.kids B) (hl : x.write.length ≤ 40000000) (hkl : x.kids.len ≤ 140737488355328) (hk : x.kind = 9) (hk1 : x.kids.len = 1)  : Calls Tryz.prog 176 #[ndV x B cap] w (RowOut x.write w) := by
 obtain ⟨z, hz1, hz⟩ := one_kid hk1
 rw [Nd.write_rep hk, Trees.writes_head hz] at hl ⊢
 have hlk : (kidS 9 (z.kind, z.write)).length + 1 ≤ 40000000 := by
  simp only [List.length_append, List.length_cons, List.length_nil, hk] at hl
  omega
 have hlz : z.write.length ≤ 40000000 := by
  have : z.write.length ≤ (kidS 9 (z.kind, z.write)).length := by
   unfold kidS
   split
   ·simp; omega
   ·exact Nat.le_refl _
  omega
 obtain ⟨b, o, C, capc, rfl, _, _, hn0, hkz0⟩ := ht.get hz
 have hbw : b < w.heap.size := World.block_lt_of_cell? w _ hn0.1
 have HKZ := Lib.hid hkz0
 have HN0 := Lib.hid hn0
 have HW := Lib.hid (hK z (List.mem_of_getElem? hz))
 have HK1 := Lib.hid hk1
 clear hk1 hK ht hkz0 hn0 hz hz1 hl
 unfold ndV
 skip
 try rw [hk]
 clear hk
 have HX0 := Lib.hid (show Blk (((w.alloc (.cells #[.int .i64 9, .int .u64 (word x.set.testBit 0), .int .u64 (word x.set.testBit 1), .int .u64 (word x.set.testBit 2), .int .u64 (word x.set.testBit 3), .slice (some ⟨b, o, none⟩) x.kids.len cap, .int .i64 x.lo, .int .i64 x.hi] 28)).alloc (.cells #[] 139)).alloc (.cells #[.int .i64 8, .int .i64 0, .int .u64 0, .int .u64 0, .int .u64 0, .int .u64 0, .int .i64 x.lo, .int .i64 x.hi] 139)) w.heap.size 28 _ ∧ Blk (((w.alloc (.cells #[.int .i64 9, .int .u64 (word x.set.testBit 0), .int .u64 (word x.set.testBit 1), .int .u64 (word x.set.testBit 2), .int .u64 (word x.set.testBit 3), .slice (some ⟨b, o, none⟩) x.kids.len cap, .int .i64 x.lo, .int .i64 x.hi] 28)).alloc (.cells #[] 139)).alloc (.cells #[.int .i64 8, .int .i64 0, .int .u64 0, .int .u64 0, .int .u64 0, .int .u64 0, .int .i64 x.lo, .int .i64 x.hi] 139)) (w.heap.size + 1 + 1) 139 #[.int .i64 8, .int .i64 0, .int .u64 0, .int .u64 0, .int .u64 0, .int .u64 0, .int .i64 x.lo, .int .i64 x.hi] ∧ Below w.heap.size w (((w.alloc (.cells #[.int .i64 9, .int .u64 (word x.set.testBit 0), .int .u64 (word x.set.testBit 1), .int .u64 (word x.set.testBit 2), .int .u64 (word x.set.testBit 3), .slice (some ⟨b, o, none⟩) x.kids.len cap, .int .i64 x.lo, .int .i64 x.hi] 28)).alloc (.cells #[] 139)).alloc (.cells #[.int .i64 8, .int .i64 0, .int .u64 0, .int .u64 0, .int .u64 0, .int .u64 0, .int .i64 x.lo, .int .i64 x.hi] 139)) from ⟨((Blk.new w _ _).alloc _).alloc _, Blk.new_at (by simp), (((Below.refl w.heap.size w).alloc (Nat.le_refl _) _).alloc (by simp) _).alloc (by simp; omega) _⟩)
 go_enter Tryz.func176, Tryz.ntmps176
 go_upto_region 20 with fail
 generalize (((w.alloc (.cells #[.int .i64 9, .int .u64 (word x.set.testBit 0), .int .u64 (word x.set.testBit 1), .int .u64 (word x.set.testBit 2), .int .u64 (word x.set.testBit 3), .slice (some ⟨b, o, none⟩) x.kids.len cap, .int .i64 x.lo, .int .i64 x.hi] 28)).alloc (.cells #[] 139)).alloc (.cells #[.int .i64 8, .int .i64 0, .int .u64 0, .int .u64 0, .int .u64 0, .int .u64 0, .int .i64 x.lo, .int .i64 x.hi] 139)) = w2 at *
 have hk1 := HK1.out
 have hX := HX0.out.1
 have hY := HX0.out.2.1
 have hBB := HX0.out.2.2
 obtain ⟨c0, c1, c2, c3, c4, c5, c6, c7⟩ := HN0.out.keep (w' := w2) (fun o' => hBB.cell (p := ⟨b, o', none⟩) hbw)
 simp only [Nat.zero_mul, Nat.add_zero] at c0 c1 c2 c3 c4 c5 c6 c7
 have n0 := (hX).cell 0
 have n1 := (hX).cell 1
 have n2 := (hX).cell 2
 have n3 := (hX).cell 3
 have n4 := (hX).cell 4
 have n5 := (hX).cell 5
 have n6 := (hX).cell 6
 have n7 := (hX).cell 7
 have hlx := (hX).lt
 simp only [List.getElem?_toArray, List.getElem?_cons_zero, List.getElem?_cons_succ] at n0 n1 n2 n3 n4 n5 n6 n7
 have y0 := hY.cell 0
 have y1 := hY.cell 1
 have y2 := hY.cell 2
 have y3 := hY.cell 3
 have y4 := hY.cell 4
 have y5 := hY.cell 5
 have y6 := hY.cell 6
 have y7 := hY.cell 7
 have hly := hY.lt
 simp only [List.getElem?_toArray, List.getElem?_cons_zero, List.getElem?_cons_succ] at y0 y1 y2 y3 y4 y5 y6 y7
 have hlb : b < w2.heap.size := Nat.lt_of_lt_of_le hbw hBB.size
 have hKl := three_of (Q := fun c => c < w2.heap.size) hlx hlb hly
 have HC := Lib.hid (rkid_go 9 z C capc P w2.drew ((HKZ.out.below hBB).below (Below.refl _ _).drew) HW.out hlz)
 have HD := Lib.hid (rkid_go 9 z C capc P (w2.drew.alloc (.cells #[.int .i64 8, .int .i64 0, .int .u64 0, .int .u64 0, .int .u64 0, .int .u64 0, .int .i64 x.lo, .int .i64 x.hi] 139)) ((HKZ.out.below hBB).below ((Below.refl _ _).drew.alloc (Nat.le_refl _) _)) HW.out hlz)
 have HBB := Lib.hid hBB
 have HLC := Lib.hid (show lexCell (⟨8, 0, noSet, x.lo, x.hi⟩) = [.int .i64 8, .int .i64 0, .int .u64 0, .int .u64 0, .int .u64 0, .int .u64 0, .int .i64 x.lo, .int .i64 x.hi] from rfl)
 unfold ndV at HC HD
 clear hX hY hBB HX0 HKZ HN0 HW
 generalize kidS 9 (z.kind, z.write) = lz at *
 refine wp_region_held_drew (S := fun w' => ∀ b' o', (b' = w.heap.size ∨ b' = b ∨ b' = w.heap.size + 1 + 1) → w'.cell? ⟨b', o', none⟩ = w2.cell? ⟨b', o', none⟩) (by kernel_rfl) (KeepP.start (fun c => c = w.heap.size ∨ c = b ∨ c = w.heap.size + 1 + 1) w2) (fun hHeld => ?_)
 refine wpAnyH_take (i := 0) (oi := _) (v := ?_) rfl (by kernel_rfl) (by kernel_rfl) (by kernel_rfl) (fun _ _ _ h => h) (Or.inl ⟨by kernel_rfl, ?_⟩) (by assumption) ?_
 rotate_left
 ·intro w hSw
  try dsimp only at hSw
  go_simp
  try (with_reducible rfl)
 try simp only [Act.put, List.getElem_toArray, List.getElem_cons_zero, List.getElem_cons_succ, List.setIfInBounds_toArray, List.set_cons_zero, List.set_cons_succ]
 refine wpAnyH_take (i := 1) (oi := _) (v := ?_) rfl (by kernel_rfl) (by kernel_rfl) (by kernel_rfl) (fun _ _ _ h => h) (Or.inl ⟨by kernel_rfl, ?_⟩) (by assumption) ?_
 rotate_left
 ·intro w hSw
  try dsimp only at hSw
  go_simp
  try (with_reducible rfl)
 try simp only [Act.put, List.getElem_toArray, List.getElem_cons_zero, List.getElem_cons_succ, List.setIfInBounds_toArray, List.set_cons_zero, List.set_cons_succ]
 refine wpAnyH_take (i := 2) (oi := _) (v := ?_) rfl (by kernel_rfl) (by kernel_rfl) (by kernel_rfl) (fun _ _ _ h => h) (Or.inl ⟨by kernel_rfl, ?_⟩) (by assumption) ?_
 rotate_left
 ·intro w hSw
  try dsimp only at hSw
  go_simp
  try (with_reducible rfl)
 try simp only [Act.put, List.getElem_toArray, List.getElem_cons_zero, List.getElem_cons_succ, List.setIfInBounds_toArray, List.set_cons_zero, List.set_cons_succ]
 refine wpAnyH_take (i := 3) (oi := _) (v := ?_) rfl (by kernel_rfl) (by kernel_rfl) (by kernel_rfl) (fun _ _ _ h => h) (Or.inl ⟨by kernel_rfl, ?_⟩) (by assumption) ?_
 rotate_left
 ·intro w hSw
  try dsimp only at hSw
  go_simp
  try (with_reducible rfl)
 try simp only [Act.put, List.getElem_toArray, List.getElem_cons_zero, List.getElem_cons_succ, List.setIfInBounds_toArray, List.set_cons_zero, List.set_cons_succ]
 refine wpAnyH_take (i := 4) (oi := _) (v := ?_) rfl (by kernel_rfl) (by kernel_rfl) (by kernel_rfl) (fun _ _ _ h => h) (Or.inl ⟨by kernel_rfl, ?_⟩) (by assumption) ?_
 rotate_left
 ·intro w hSw
  try dsimp only at hSw
  go_simp
  try (with_reducible rfl)
 try simp only [Act.put, List.getElem_toArray, List.getElem_cons_zero, List.getElem_cons_succ, List.setIfInBounds_toArray, List.set_cons_zero, List.set_cons_succ]
 refine wpAnyH_take (i := 5) (oi := _) (v := ?_) rfl (by kernel_rfl) (by kernel_rfl) (by kernel_rfl) (fun _ _ _ h => h) (Or.inl ⟨by kernel_rfl, ?_⟩) (by assumption) ?_
 rotate_left
 ·intro w hSw
  try dsimp only at hSw
  go_simp
  try (with_reducible rfl)
 try simp only [Act.put, List.getElem_toArray, List.getElem_cons_zero, List.getElem_cons_succ, List.setIfInBounds_toArray, List.set_cons_zero, List.set_cons_succ]
 refine wpAnyH_take (i := 7) (oi := _) (v := ?_) rfl (by kernel_rfl) (by kernel_rfl) (by kernel_rfl) (fun _ _ _ h => h) (Or.inl ⟨by kernel_rfl, ?_⟩) (by assumption) ?_
 rotate_left
 ·intro w hSw
  try dsimp only at hSw
  go_simp
  try (with_reducible rfl)
 try simp only [Act.put, List.getElem_toArray, List.getElem_cons_zero, List.getElem_cons_succ, List.setIfInBounds_toArray, List.set_cons_zero, List.set_cons_succ]
 refine wpAnyH_ready (rs := [6, 8]) (by kernel_rfl) (by simp) ?_
 refine AllReadyH.cons (o := _) rfl (fun K hK => ?_) (AllReadyH.cons (o := _) rfl (fun K hK => ?_) AllReadyH.nil)
 ·skip
  go_simp
  go_at_call 213
  refine HC.out.mono ?_
  rintro e w3 ⟨v3, rfl, hb3, ho3⟩
  have hb3' : Below w2.heap.size w2 w3 := (Below.refl w2.heap.size w2).drew.trans hb3
  have hB3 := HBB.out.trans (hb3'.mono HBB.out.size)
  have hr := row_new w3 (⟨8, 0, noSet, x.lo, x.hi⟩)
  rw [HLC.out] at hr
  obtain ⟨v4, w4, hr4, ho4, hg4⟩ := append_lexs (w3.alloc (.cells #[.int .i64 8, .int .i64 0, .int .u64 0, .int .u64 0, .int .u64 0, .int .u64 0, .int .i64 x.lo, .int .i64 x.hi] 139)) w.heap.size _ v3 _ lz [⟨8, 0, noSet, x.lo, x.hi⟩] ((ho3.mono (base' := w.heap.size) HBB.out.size).alloc _) hr (by simp; omega) (by rw [World.size_alloc]; have := hB3.size; omega)
  have HK3 := Lib.hid (KeepP.below (KeepP.start (fun c => c = w.heap.size ∨ c = b ∨ c = w.heap.size + 1 + 1) w2) hb3 hKl)
  have hKl3 : ∀ c, (c = w.heap.size ∨ c = b ∨ c = w.heap.size + 1 + 1) → c < w3.heap.size := fun c hc => Nat.lt_of_lt_of_le (hKl c hc) hb3'.size
  have HK3' := Lib.hid (KeepP.alloc HK3.out hKl3 (.cells #[.int .i64 8, .int .i64 0, .int .u64 0, .int .u64 0, .int .u64 0, .int .u64 0, .int .i64 x.lo, .int .i64 x.hi] 139))
  have HK4 := Lib.hid (KeepP.grown HK3'.out hg4 (fun c hc => ⟨by rw [World.size_alloc]; have := hKl3 c hc; omega, fun e => by have := (ho3.lt c e.symm).1; have := hKl c hc; have hd : w2.drew.heap.size = w2.heap.size := rfl; omega⟩))
  dsimp only
  refine hK.out _ _ HK3.out (fun _ => ?_)
  clear hK K hHeld
  try simp only [Act.put, List.getElem_toArray, List.getElem_cons_zero, List.getElem_cons_succ, List.setIfInBounds_toArray, List.set_cons_zero, List.set_cons_succ]
  refine wpAnyH_ready (rs := [8]) (by kernel_rfl) (by simp) ?_
  refine AllReadyH.cons (o := _) rfl (fun K hK => ?_) AllReadyH.nil
  go_simp
  have HR4 := Lib.hid hr4
  have HF4 := Lib.hid (show _ ∧ _ from ⟨grown_since (hB3.alloc hB3.size _) ((ho3.mono (base' := w.heap.size) HBB.out.size).alloc _) hg4, ho4⟩)
  clear hr4 ho4 hg4
  refine hK.out _ _ HK3'.out (fun _ => ?_); clear hK K
  try simp only [Act.put, List.getElem_toArray, List.getElem_cons_zero, List.getElem_cons_succ, List.setIfInBounds_toArray, List.set_cons_zero, List.set_cons_succ]
  refine wpAnyH_ready (rs := [9]) (by kernel_rfl) (by simp) ?_
  refine AllReadyH.cons (o := _) rfl (fun K hK => ?_) AllReadyH.nil
  refine step_append_by (by rfl) _ _ _ _ rfl _ _ _ _ rfl rfl HR4.out ?_
  refine hK.out _ _ HK4.out (fun _ => ?_)
  clear hK K
  try simp only [Act.put, List.getElem_toArray, List.getElem_cons_zero, List.getElem_cons_succ, List.setIfInBounds_toArray, List.set_cons_zero, List.set_cons_succ]
  refine wpAnyH_take (i := 10) (oi := _) (v := ?_) rfl (by kernel_rfl) (by kernel_rfl) (by kernel_rfl) (fun _ _ _ h => h) (Or.inl ⟨by kernel_rfl, ?_⟩) (by assumption) ?_
  rotate_left
  ·intro w hSw
   try dsimp only at hSw
   go_simp
   try (with_reducible rfl)
  try simp only [Act.put, List.getElem_toArray, List.getElem_cons_zero, List.getElem_cons_succ, List.setIfInBounds_toArray, List.set_cons_zero, List.set_cons_succ]
  refine wpAnyH_done (by kernel_rfl) ?_ _
  go_wp2
  go_light
  go_ret
  exact ⟨_, rfl, HF4.out.1, HF4.out.2⟩
 ·skip
  go_simp
  have HK2 := Lib.hid (KeepP.alloc (KeepP.start (fun c => c = w.heap.size ∨ c = b ∨ c = w.heap.size + 1 + 1) w2) hKl (.cells #[.int .i64 8, .int .i64 0, .int .u64 0, .int .u64 0, .int .u64 0, .int .u64 0, .int .i64 x.lo, .int .i64 x.hi] 139))
  refine hK.out _ _ HK2.out (fun _ => ?_)
  clear hK K hHeld
  try simp only [Act.put, List.getElem_toArray, List.getElem_cons_zero, List.getElem_cons_succ, List.setIfInBounds_toArray, List.set_cons_zero, List.set_cons_succ]
  refine wpAnyH_ready (rs := [6]) (by kernel_rfl) (by simp) ?_
  refine AllReadyH.cons (o := _) rfl (fun K hK => ?_) AllReadyH.nil
  go_simp
  go_at_call 213
  refine HD.out.mono ?_
  rintro e w3 ⟨v3, rfl, hb3, ho3⟩
  have hb3' : Below w2.heap.size w2 w3 := ((Below.refl w2.heap.size w2).drew.alloc (Nat.le_refl _) _).trans (hb3.mono (by simp))
  have hB3 := HBB.out.trans (hb3'.mono HBB.out.size)
  have hr := row_new w2.drew (⟨8, 0, noSet, x.lo, x.hi⟩)
  rw [HLC.out] at hr
  have ho3' := ho3.mono (base' := w.heap.size) (by have := HBB.out.size; simp; omega)
  obtain ⟨v4, w4, hr4, ho4, hg4⟩ := append_lexs w3 w.heap.size _ v3 _ lz [⟨8, 0, noSet, x.lo, x.hi⟩] ho3' (own_below hr hb3) (by simp; omega) hB3.size
  have hKl3 : ∀ c, (c = w.heap.size ∨ c = b ∨ c = w.heap.size + 1 + 1) → c < (w2.drew.alloc (.cells #[.int .i64 8, .int .i64 0, .int .u64 0, .int .u64 0, .int .u64 0, .int .u64 0, .int .i64 x.lo, .int .i64 x.hi] 139)).heap.size := fun c hc => by have := hKl c hc; simp; omega
  have HK3 := Lib.hid (KeepP.below HK2.out hb3 hKl3)
  have HK4 := Lib.hid (KeepP.grown HK3.out hg4 (fun c hc => ⟨Nat.lt_of_lt_of_le (hKl c hc) hb3'.size, fun e => by have := (ho3.lt c e.symm).1; have := hKl3 c hc; omega⟩))
  dsimp only
  have HR4 := Lib.hid hr4
  have HF4 := Lib.hid (show _ ∧ _ from ⟨grown_since hB3 ho3' hg4, ho4⟩)
  clear hr4 ho4 hg4
  refine hK.out _ _ HK3.out (fun _ => ?_); clear hK K
  try simp only [Act.put, List.getElem_toArray, List.getElem_cons_zero, List.getElem_cons_succ, List.setIfInBounds_toArray, List.set_cons_zero, List.set_cons_succ]
  refine wpAnyH_ready (rs := [9]) (by kernel_rfl) (by simp) ?_
  refine AllReadyH.cons (o := _) rfl (fun K hK => ?_) AllReadyH.nil
  refine step_append_by (by rfl) _ _ _ _ rfl _ _ _ _ rfl rfl HR4.out ?_
  refine hK.out _ _ HK4.out (fun _ => ?_)
  clear hK K
  try simp only [Act.put, List.getElem_toArray, List.getElem_cons_zero, List.getElem_cons_succ, List.setIfInBounds_toArray, List.set_cons_zero, List.set_cons_succ]
  refine wpAnyH_take (i := 10) (oi := _) (v := ?_) rfl (by kernel_rfl) (by kernel_rfl) (by kernel_rfl) (fun _ _ _ h => h) (Or.inl ⟨by kernel_rfl, ?_⟩) (by assumption) ?_
  rotate_left
  ·intro w hSw
   try dsimp only at hSw
   go_simp
   try (with_reducible rfl)
  try simp only [Act.put, List.getElem_toArray, List.getElem_cons_zero, List.getElem_cons_succ, List.setIfInBounds_toArray, List.set_cons_zero, List.set_cons_succ]
  refine wpAnyH_done (by kernel_rfl) ?_ _
  go_wp2
  go_light
  go_ret
  exact ⟨_, rfl, HF4.out.1, HF4.out.2⟩
theorem rwrite_onep (x : Nd) (hK : ∀ z ∈ x.kids.list, RWriteC z) (P : Nat → Prop) (B : Option Addr) (cap : Nat) (w : World) (ht : TreesAt w P x.kids B) (hl : x.write.length ≤ 40000000) (hkl : x.kids.len ≤ 140737488355328) (hk1 : x.kids.len = 1) (hlo : x.lo = 0) (hhi : x.hi = 0) (h6 : 6 ≤ x.kind) (h8 : x.kind ≤ 8) : Calls Tryz.prog 176 #[ndV x B cap] w (RowOut x.write w) := by
 obtain ⟨z, hz1, hz⟩ := one_kid hk1
 rw [Nd.write_post ⟨h6, h8⟩, Trees.writes_head hz] at hl ⊢
 have hlk : (kidS x.kind (z.kind, z.write)).length + 1 ≤ 40000000 := by
  simp only [List.length_append, List.length_cons, List.length_nil] at hl
  omega
 have hlz : z.write.length ≤ 40000000 := by
  have : z.write.length ≤ (kidS x.kind (z.kind, z.write)).length := by
   unfold kidS
   split
   ·simp; omega
   ·exact Nat.le_refl _
  omega
 obtain ⟨b, o, C, capc, rfl, _, _, hn0, hkz0⟩ := ht.get hz
 have hbw : b < w.heap.size := World.block_lt_of_cell? w _ hn0.1
 have HKZ := Lib.hid hkz0
 have HN0 := Lib.hid hn0
 have HW := Lib.hid (hK z (List.mem_of_getElem? hz))
 have HK1 := Lib.hid hk1
 clear hk1 hK ht hkz0 hn0 hz hz1 hl
 unfold ndV
 rw [hlo, hhi]
 have HX0 := Lib.hid (show Blk (((w.alloc (.cells #[.int .i64 x.kind, .int .u64 (word x.set.testBit 0), .int .u64 (word x.set.testBit 1), .int .u64 (word x.set.testBit 2), .int .u64 (word x.set.testBit 3), .slice (some ⟨b, o, none⟩) x.kids.len cap, .int .i64 0, .int .i64 0] 28)).alloc (.cells #[] 139)).alloc (.cells #[.int .i64 (x.kind - 1), .int .i64 0, .int .u64 0, .int .u64 0, .int .u64 0, .int .u64 0, .int .i64 0, .int .i64 0] 139)) w.heap.size 28 _ ∧ Blk (((w.alloc (.cells #[.int .i64 x.kind, .int .u64 (word x.set.testBit 0), .int .u64 (word x.set.testBit 1), .int .u64 (word x.set.testBit 2), .int .u64 (word x.set.testBit 3), .slice (some ⟨b, o, none⟩) x.kids.len cap, .int .i64 0, .int .i64 0] 28)).alloc (.cells #[] 139)).alloc (.cells #[.int .i64 (x.kind - 1), .int .i64 0, .int .u64 0, .int .u64 0, .int .u64 0, .int .u64 0, .int .i64 0, .int .i64 0] 139)) (w.heap.size + 1 + 1) 139 #[.int .i64 (x.kind - 1), .int .i64 0, .int .u64 0, .int .u64 0, .int .u64 0, .int .u64 0, .int .i64 0, .int .i64 0] ∧ Below w.heap.size w (((w.alloc (.cells #[.int .i64 x.kind, .int .u64 (word x.set.testBit 0), .int .u64 (word x.set.testBit 1), .int .u64 (word x.set.testBit 2), .int .u64 (word x.set.testBit 3), .slice (some ⟨b, o, none⟩) x.kids.len cap, .int .i64 0, .int .i64 0] 28)).alloc (.cells #[] 139)).alloc (.cells #[.int .i64 (x.kind - 1), .int .i64 0, .int .u64 0, .int .u64 0, .int .u64 0, .int .u64 0, .int .i64 0, .int .i64 0] 139)) from ⟨((Blk.new w _ _).alloc _).alloc _, Blk.new_at (by simp), (((Below.refl w.heap.size w).alloc (Nat.le_refl _) _).alloc (by simp) _).alloc (by simp; omega) _⟩)
 have q1 := beqF (show x.kind ≠ 1 by omega)
 have q3 := beqF (show x.kind ≠ 3 by omega)
 have q2 := beqF (show x.kind ≠ 2 by omega)
 have q5 := beqF (show x.kind ≠ 5 by omega)
 have q4 := beqF (show x.kind ≠ 4 by omega)
 have q9 := bneT (show x.kind ≠ 9 by omega)
 have qa : IntKind.i64.wrap (x.kind - 6) = x.kind - 6 := IntWalk.i64_in _ (by omega)
 have qb : IntKind.i64.wrap (5 + (x.kind - 6)) = x.kind - 1 := by rw [IntWalk.i64_in _ (by omega)]; omega
 go_enter Tryz.func176, Tryz.ntmps176
 go_upto_region 20 with fail
 generalize (((w.alloc (.cells #[.int .i64 x.kind, .int .u64 (word x.set.testBit 0), .int .u64 (word x.set.testBit 1), .int .u64 (word x.set.testBit 2), .int .u64 (word x.set.testBit 3), .slice (some ⟨b, o, none⟩) x.kids.len cap, .int .i64 0, .int .i64 0] 28)).alloc (.cells #[] 139)).alloc (.cells #[.int .i64 (x.kind - 1), .int .i64 0, .int .u64 0, .int .u64 0, .int .u64 0, .int .u64 0, .int .i64 0, .int .i64 0] 139)) = w2 at *
 have hk1 := HK1.out
 have hX := HX0.out.1
 have hY := HX0.out.2.1
 have hBB := HX0.out.2.2
 obtain ⟨c0, c1, c2, c3, c4, c5, c6, c7⟩ := HN0.out.keep (w' := w2) (fun o' => hBB.cell (p := ⟨b, o', none⟩) hbw)
 simp only [Nat.zero_mul, Nat.add_zero] at c0 c1 c2 c3 c4 c5 c6 c7
 have n0 := (hX).cell 0
 have n1 := (hX).cell 1
 have n2 := (hX).cell 2
 have n3 := (hX).cell 3
 have n4 := (hX).cell 4
 have n5 := (hX).cell 5
 have n6 := (hX).cell 6
 have n7 := (hX).cell 7
 have hlx := (hX).lt
 simp only [List.getElem?_toArray, List.getElem?_cons_zero, List.getElem?_cons_succ] at n0 n1 n2 n3 n4 n5 n6 n7
 have y0 := hY.cell 0
 have y1 := hY.cell 1
 have y2 := hY.cell 2
 have y3 := hY.cell 3
 have y4 := hY.cell 4
 have y5 := hY.cell 5
 have y6 := hY.cell 6
 have y7 := hY.cell 7
 have hly := hY.lt
 simp only [List.getElem?_toArray, List.getElem?_cons_zero, List.getElem?_cons_succ] at y0 y1 y2 y3 y4 y5 y6 y7
 have hlb : b < w2.heap.size := Nat.lt_of_lt_of_le hbw hBB.size
 have hKl := three_of (Q := fun c => c < w2.heap.size) hlx hlb hly
 have HC := Lib.hid (rkid_go x.kind z C capc P w2.drew ((HKZ.out.below hBB).below (Below.refl _ _).drew) HW.out hlz)
 have HD := Lib.hid (rkid_go x.kind z C capc P (w2.drew.alloc (.cells #[.int .i64 (x.kind - 1), .int .i64 0, .int .u64 0, .int .u64 0, .int .u64 0, .int .u64 0, .int .i64 0, .int .i64 0] 139)) ((HKZ.out.below hBB).below ((Below.refl _ _).drew.alloc (Nat.le_refl _) _)) HW.out hlz)
 have HBB := Lib.hid hBB
 have HLC := Lib.hid (show lexCell (lexK (x.kind - 1)) = [.int .i64 (x.kind - 1), .int .i64 0, .int .u64 0, .int .u64 0, .int .u64 0, .int .u64 0, .int .i64 0, .int .i64 0] from rfl)
 unfold ndV at HC HD
 clear hX hY hBB HX0 HKZ HN0 HW
 generalize kidS x.kind (z.kind, z.write) = lz at *
 refine wp_region_held_drew (S := fun w' => ∀ b' o', (b' = w.heap.size ∨ b' = b ∨ b' = w.heap.size + 1 + 1) → w'.cell? ⟨b', o', none⟩ = w2.cell? ⟨b', o', none⟩) (by kernel_rfl) (KeepP.start (fun c => c = w.heap.size ∨ c = b ∨ c = w.heap.size + 1 + 1) w2) (fun hHeld => ?_)
 refine wpAnyH_take (i := 0) (oi := _) (v := ?_) rfl (by kernel_rfl) (by kernel_rfl) (by kernel_rfl) (fun _ _ _ h => h) (Or.inl ⟨by kernel_rfl, ?_⟩) (by assumption) ?_
 rotate_left
 ·intro w hSw
  try dsimp only at hSw
  go_simp
  try (with_reducible rfl)
 try simp only [Act.put, List.getElem_toArray, List.getElem_cons_zero, List.getElem_cons_succ, List.setIfInBounds_toArray, List.set_cons_zero, List.set_cons_succ]
 refine wpAnyH_take (i := 1) (oi := _) (v := ?_) rfl (by kernel_rfl) (by kernel_rfl) (by kernel_rfl) (fun _ _ _ h => h) (Or.inl ⟨by kernel_rfl, ?_⟩) (by assumption) ?_
 rotate_left
 ·intro w hSw
  try dsimp only at hSw
  go_simp
  try (with_reducible rfl)
 try simp only [Act.put, List.getElem_toArray, List.getElem_cons_zero, List.getElem_cons_succ, List.setIfInBounds_toArray, List.set_cons_zero, List.set_cons_succ]
 refine wpAnyH_take (i := 2) (oi := _) (v := ?_) rfl (by kernel_rfl) (by kernel_rfl) (by kernel_rfl) (fun _ _ _ h => h) (Or.inl ⟨by kernel_rfl, ?_⟩) (by assumption) ?_
 rotate_left
 ·intro w hSw
  try dsimp only at hSw
  go_simp
  try (with_reducible rfl)
 try simp only [Act.put, List.getElem_toArray, List.getElem_cons_zero, List.getElem_cons_succ, List.setIfInBounds_toArray, List.set_cons_zero, List.set_cons_succ]
 refine wpAnyH_take (i := 3) (oi := _) (v := ?_) rfl (by kernel_rfl) (by kernel_rfl) (by kernel_rfl) (fun _ _ _ h => h) (Or.inl ⟨by kernel_rfl, ?_⟩) (by assumption) ?_
 rotate_left
 ·intro w hSw
  try dsimp only at hSw
  go_simp
  try (with_reducible rfl)
 try simp only [Act.put, List.getElem_toArray, List.getElem_cons_zero, List.getElem_cons_succ, List.setIfInBounds_toArray, List.set_cons_zero, List.set_cons_succ]
 refine wpAnyH_take (i := 4) (oi := _) (v := ?_) rfl (by kernel_rfl) (by kernel_rfl) (by kernel_rfl) (fun _ _ _ h => h) (Or.inl ⟨by kernel_rfl, ?_⟩) (by assumption) ?_
 rotate_left
 ·intro w hSw
  try dsimp only at hSw
  go_simp
  try (with_reducible rfl)
 try simp only [Act.put, List.getElem_toArray, List.getElem_cons_zero, List.getElem_cons_succ, List.setIfInBounds_toArray, List.set_cons_zero, List.set_cons_succ]
 refine wpAnyH_take (i := 5) (oi := _) (v := ?_) rfl (by kernel_rfl) (by kernel_rfl) (by kernel_rfl) (fun _ _ _ h => h) (Or.inl ⟨by kernel_rfl, ?_⟩) (by assumption) ?_
 rotate_left
 ·intro w hSw
  try dsimp only at hSw
  go_simp
  try (with_reducible rfl)
 try simp only [Act.put, List.getElem_toArray, List.getElem_cons_zero, List.getElem_cons_succ, List.setIfInBounds_toArray, List.set_cons_zero, List.set_cons_succ]
 refine wpAnyH_take (i := 7) (oi := _) (v := ?_) rfl (by kernel_rfl) (by kernel_rfl) (by kernel_rfl) (fun _ _ _ h => h) (Or.inl ⟨by kernel_rfl, ?_⟩) (by assumption) ?_
 rotate_left
 ·intro w hSw
  try dsimp only at hSw
  go_simp
  try (with_reducible rfl)
 try simp only [Act.put, List.getElem_toArray, List.getElem_cons_zero, List.getElem_cons_succ, List.setIfInBounds_toArray, List.set_cons_zero, List.set_cons_succ]
 refine wpAnyH_ready (rs := [6, 8]) (by kernel_rfl) (by simp) ?_
 refine AllReadyH.cons (o := _) rfl (fun K hK => ?_) (AllReadyH.cons (o := _) rfl (fun K hK => ?_) AllReadyH.nil)
 ·skip
  go_simp
  go_at_call 213
  refine HC.out.mono ?_
  rintro e w3 ⟨v3, rfl, hb3, ho3⟩
  have hb3' : Below w2.heap.size w2 w3 := (Below.refl w2.heap.size w2).drew.trans hb3
  have hB3 := HBB.out.trans (hb3'.mono HBB.out.size)
  have hr := row_new w3 (lexK (x.kind - 1))
  rw [HLC.out] at hr
  obtain ⟨v4, w4, hr4, ho4, hg4⟩ := append_lexs (w3.alloc (.cells #[.int .i64 (x.kind - 1), .int .i64 0, .int .u64 0, .int .u64 0, .int .u64 0, .int .u64 0, .int .i64 0, .int .i64 0] 139)) w.heap.size _ v3 _ lz [lexK (x.kind - 1)] ((ho3.mono (base' := w.heap.size) HBB.out.size).alloc _) hr (by simp; omega) (by rw [World.size_alloc]; have := hB3.size; omega)
  have HK3 := Lib.hid (KeepP.below (KeepP.start (fun c => c = w.heap.size ∨ c = b ∨ c = w.heap.size + 1 + 1) w2) hb3 hKl)
  have hKl3 : ∀ c, (c = w.heap.size ∨ c = b ∨ c = w.heap.size + 1 + 1) → c < w3.heap.size := fun c hc => Nat.lt_of_lt_of_le (hKl c hc) hb3'.size
  have HK3' := Lib.hid (KeepP.alloc HK3.out hKl3 (.cells #[.int .i64 (x.kind - 1), .int .i64 0, .int .u64 0, .int .u64 0, .int .u64 0, .int .u64 0, .int .i64 0, .int .i64 0] 139))
  have HK4 := Lib.hid (KeepP.grown HK3'.out hg4 (fun c hc => ⟨by rw [World.size_alloc]; have := hKl3 c hc; omega, fun e => by have := (ho3.lt c e.symm).1; have := hKl c hc; have hd : w2.drew.heap.size = w2.heap.size := rfl; omega⟩))
  dsimp only
  refine hK.out _ _ HK3.out (fun _ => ?_)
  clear hK K hHeld
  try simp only [Act.put, List.getElem_toArray, List.getElem_cons_zero, List.getElem_cons_succ, List.setIfInBounds_toArray, List.set_cons_zero, List.set_cons_succ]
  refine wpAnyH_ready (rs := [8]) (by kernel_rfl) (by simp) ?_
  refine AllReadyH.cons (o := _) rfl (fun K hK => ?_) AllReadyH.nil
  go_simp
  have HR4 := Lib.hid hr4
  have HF4 := Lib.hid (show _ ∧ _ from ⟨grown_since (hB3.alloc hB3.size _) ((ho3.mono (base' := w.heap.size) HBB.out.size).alloc _) hg4, ho4⟩)
  clear hr4 ho4 hg4
  refine hK.out _ _ HK3'.out (fun _ => ?_); clear hK K
  try simp only [Act.put, List.getElem_toArray, List.getElem_cons_zero, List.getElem_cons_succ, List.setIfInBounds_toArray, List.set_cons_zero, List.set_cons_succ]
  refine wpAnyH_ready (rs := [9]) (by kernel_rfl) (by simp) ?_
  refine AllReadyH.cons (o := _) rfl (fun K hK => ?_) AllReadyH.nil
  refine step_append_by (by rfl) _ _ _ _ rfl _ _ _ _ rfl rfl HR4.out ?_
  refine hK.out _ _ HK4.out (fun _ => ?_)
  clear hK K
  try simp only [Act.put, List.getElem_toArray, List.getElem_cons_zero, List.getElem_cons_succ, List.setIfInBounds_toArray, List.set_cons_zero, List.set_cons_succ]
  refine wpAnyH_take (i := 10) (oi := _) (v := ?_) rfl (by kernel_rfl) (by kernel_rfl) (by kernel_rfl) (fun _ _ _ h => h) (Or.inl ⟨by kernel_rfl, ?_⟩) (by assumption) ?_
  rotate_left
  ·intro w hSw
   try dsimp only at hSw
   go_simp
   try (with_reducible rfl)
  try simp only [Act.put, List.getElem_toArray, List.getElem_cons_zero, List.getElem_cons_succ, List.setIfInBounds_toArray, List.set_cons_zero, List.set_cons_succ]
  refine wpAnyH_done (by kernel_rfl) ?_ _
  go_wp2
  go_light
  go_ret
  exact ⟨_, rfl, HF4.out.1, HF4.out.2⟩
 ·skip
  go_simp
  have HK2 := Lib.hid (KeepP.alloc (KeepP.start (fun c => c = w.heap.size ∨ c = b ∨ c = w.heap.size + 1 + 1) w2) hKl (.cells #[.int .i64 (x.kind - 1), .int .i64 0, .int .u64 0, .int .u64 0, .int .u64 0, .int .u64 0, .int .i64 0, .int .i64 0] 139))
  refine hK.out _ _ HK2.out (fun _ => ?_)
  clear hK K hHeld
  try simp only [Act.put, List.getElem_toArray, List.getElem_cons_zero, List.getElem_cons_succ, List.setIfInBounds_toArray, List.set_cons_zero, List.set_cons_succ]
  refine wpAnyH_ready (rs := [6]) (by kernel_rfl) (by simp) ?_
  refine AllReadyH.cons (o := _) rfl (fun K hK => ?_) AllReadyH.nil
  go_simp
  go_at_call 213
  refine HD.out.mono ?_
  rintro e w3 ⟨v3, rfl, hb3, ho3⟩
  have hb3' : Below w2.heap.size w2 w3 := ((Below.refl w2.heap.size w2).drew.alloc (Nat.le_refl _) _).trans (hb3.mono (by simp))
  have hB3 := HBB.out.trans (hb3'.mono HBB.out.size)
  have hr := row_new w2.drew (lexK (x.kind - 1))
  rw [HLC.out] at hr
  have ho3' := ho3.mono (base' := w.heap.size) (by have := HBB.out.size; simp; omega)
  obtain ⟨v4, w4, hr4, ho4, hg4⟩ := append_lexs w3 w.heap.size _ v3 _ lz [lexK (x.kind - 1)] ho3' (own_below hr hb3) (by simp; omega) hB3.size
  have hKl3 : ∀ c, (c = w.heap.size ∨ c = b ∨ c = w.heap.size + 1 + 1) → c < (w2.drew.alloc (.cells #[.int .i64 (x.kind - 1), .int .i64 0, .int .u64 0, .int .u64 0, .int .u64 0, .int .u64 0, .int .i64 0, .int .i64 0] 139)).heap.size := fun c hc => by have := hKl c hc; simp; omega
  have HK3 := Lib.hid (KeepP.below HK2.out hb3 hKl3)
  have HK4 := Lib.hid (KeepP.grown HK3.out hg4 (fun c hc => ⟨Nat.lt_of_lt_of_le (hKl c hc) hb3'.size, fun e => by have := (ho3.lt c e.symm).1; have := hKl3 c hc; omega⟩))
  dsimp only
  have HR4 := Lib.hid hr4
  have HF4 := Lib.hid (show _ ∧ _ from ⟨grown_since hB3 ho3' hg4, ho4⟩)
  clear hr4 ho4 hg4
  refine hK.out _ _ HK3.out (fun _ => ?_); clear hK K
  try simp only [Act.put, List.getElem_toArray, List.getElem_cons_zero, List.getElem_cons_succ, List.setIfInBounds_toArray, List.set_cons_zero, List.set_cons_succ]
  refine wpAnyH_ready (rs := [9]) (by kernel_rfl) (by simp) ?_
  refine AllReadyH.cons (o := _) rfl (fun K hK => ?_) AllReadyH.nil
  refine step_append_by (by rfl) _ _ _ _ rfl _ _ _ _ rfl rfl HR4.out ?_
  refine hK.out _ _ HK4.out (fun _ => ?_)
  clear hK K
  try simp only [Act.put, List.getElem_toArray, List.getElem_cons_zero, List.getElem_cons_succ, List.setIfInBounds_toArray, List.set_cons_zero, List.set_cons_succ]
  refine wpAnyH_take (i := 10) (oi := _) (v := ?_) rfl (by kernel_rfl) (by kernel_rfl) (by kernel_rfl) (fun _ _ _ h => h) (Or.inl ⟨by kernel_rfl, ?_⟩) (by assumption) ?_
  rotate_left
  ·intro w hSw
   try dsimp only at hSw
   go_simp
   try (with_reducible rfl)
  try simp only [Act.put, List.getElem_toArray, List.getElem_cons_zero, List.getElem_cons_succ, List.setIfInBounds_toArray, List.set_cons_zero, List.set_cons_succ]
  refine wpAnyH_done (by kernel_rfl) ?_ _
  go_wp2
  go_light
  go_ret
  exact ⟨_, rfl, HF4.out.1, HF4.out.2⟩
theorem rwrite_node (x : Nd) (ha : aloneN x = true) (hK : ∀ z ∈ x.kids.list, RWriteC z) (hkl : x.kids.len ≤ 140737488355328) : RWriteC x := fun P B cap w ht hl => by
 obtain ⟨a1, a9, a0, ak1, ak9⟩ := aloneN_kids ha
 have am := (alone_more ha).1
 rcases (show x.kind = 1 ∨ x.kind = 2 ∨ x.kind = 3 ∨ x.kind = 4 ∨ x.kind = 5 ∨ x.kind = 6 ∨ x.kind = 7 ∨ x.kind = 8 ∨ x.kind = 9 by omega) with hk | hk | hk | hk | hk | hk | hk | hk | hk
 ·exact rwrite_leaf1 x hK P B cap w ht hl hkl hk
 ·exact rwrite_empty x hK P B cap w ht hl hkl hk
 ·exact rwrite_leaf3 x hK P B cap w ht hl hkl hk
 ·exact rwrite_cat x hK P B cap w ht hl hkl hk
 ·exact rwrite_alt x hK P B cap w ht hl hkl hk
 ·exact rwrite_onep x hK P B cap w ht hl hkl (a1 (by omega) ak9) (am (by omega)).1 (am (by omega)).2 (by omega) (by omega)
 ·exact rwrite_onep x hK P B cap w ht hl hkl (a1 (by omega) ak9) (am (by omega)).1 (am (by omega)).2 (by omega) (by omega)
 ·exact rwrite_onep x hK P B cap w ht hl hkl (a1 (by omega) ak9) (am (by omega)).1 (am (by omega)).2 (by omega) (by omega)
 ·exact rwrite_one9 x hK P B cap w ht hl hkl hk (a1 (by omega) ak9)
theorem rwrite_all : ∀ (F : Trees), F.size ≤ 100000000 → Okays F → ∀ z ∈ F.list, RWriteC z
 | .nil, _, _, z, hz => by cases hz
 | .cons k s ks lo hi r, hs, ho, z, hz => by
  rw [Trees.list] at hz
  have hks : Okays ks := fun y hy => ho y (by simp [Trees.nodes, hy])
  have hr : Okays r := fun y hy => ho y (by simp [Trees.nodes, hy])
  have hself : aloneN ⟨k, s, ks, lo, hi⟩ = true := ho _ (by simp [Trees.nodes])
  have hsz : ks.size ≤ 100000000 ∧ r.size ≤ 100000000 := by simp only [Trees.size] at hs; omega
  rcases List.mem_cons.1 hz with rfl | hz
  ·have hl := Trees.len_size ks
   exact rwrite_node _ hself (rwrite_all ks hsz.1 hks) (by simp only; omega)
  ·exact rwrite_all r hsz.2 hr z hz
theorem rwrite_go {x : Nd} (h : rightT x = true) : RWriteC x := by
 obtain ⟨h1, h2⟩ := okays_kids h
 have hs := rightT_size h
 unfold Nd.size at hs
 have hl := Trees.len_size x.kids
 exact rwrite_node x h1 (rwrite_all _ (by omega) h2) (by omega)
theorem one_low (k a b c d lo hi : Int) (B : Option Addr) (n cap : Nat) (w : World) (h : k < 1) : Calls Tryz.prog 110 #[.agg #[.int .i64 k, .int .u64 a, .int .u64 b, .int .u64 c, .int .u64 d, .slice B n cap, .int .i64 lo, .int .i64 hi]] w fun e w' => e = .returned (.bool false) ∧ Below w.heap.size w w' := by
 go_enter Tryz.func110, Tryz.ntmps110
 go_wp2
 all_goals go_light
 all_goals go_ret
 all_goals exact ⟨rfl, (Below.refl _ _).alloc (Nat.le_refl _) _⟩
theorem one_high (k a b c d lo hi : Int) (B : Option Addr) (n cap : Nat) (w : World) (h : 9 < k) : Calls Tryz.prog 110 #[.agg #[.int .i64 k, .int .u64 a, .int .u64 b, .int .u64 c, .int .u64 d, .slice B n cap, .int .i64 lo, .int .i64 hi]] w fun e w' => e = .returned (.bool false) ∧ Below w.heap.size w w' := by
 go_enter Tryz.func110, Tryz.ntmps110
 go_wp2
 all_goals go_light
 all_goals go_ret
 all_goals exact ⟨rfl, (Below.refl _ _).alloc (Nat.le_refl _) _⟩
theorem one_set1 (k a b c d lo hi : Int) (B : Option Addr) (n cap : Nat) (w : World) (h0 : 1 ≤ k) (h1 : k ≤ 9) (h3 : k ≠ 3) (ha : a ≠ 0) : Calls Tryz.prog 110 #[.agg #[.int .i64 k, .int .u64 a, .int .u64 b, .int .u64 c, .int .u64 d, .slice B n cap, .int .i64 lo, .int .i64 hi]] w fun e w' => e = .returned (.bool false) ∧ Below w.heap.size w w' := by
 have hk : (k != 3) = true := by rw [bne_iff_ne]; exact h3
 have hz : (a == 0) = false := by rw [beq_eq_false_iff_ne]; exact ha
 clear h3 ha
 go_enter Tryz.func110, Tryz.ntmps110
 go_wp2
 all_goals go_light
 all_goals go_ret
 all_goals exact ⟨rfl, (Below.refl _ _).alloc (Nat.le_refl _) _⟩
theorem one_set2 (k a b c d lo hi : Int) (B : Option Addr) (n cap : Nat) (w : World) (h0 : 1 ≤ k) (h1 : k ≤ 9) (h3 : k ≠ 3) (ha : a = 0) (hb : b ≠ 0) : Calls Tryz.prog 110 #[.agg #[.int .i64 k, .int .u64 a, .int .u64 b, .int .u64 c, .int .u64 d, .slice B n cap, .int .i64 lo, .int .i64 hi]] w fun e w' => e = .returned (.bool false) ∧ Below w.heap.size w w' := by
 subst ha
 have hk : (k != 3) = true := by rw [bne_iff_ne]; exact h3
 have hz : (b == 0) = false := by rw [beq_eq_false_iff_ne]; exact hb
 clear h3 hb
 go_enter Tryz.func110, Tryz.ntmps110
 go_wp2
 all_goals go_light
 all_goals go_ret
 all_goals exact ⟨rfl, (Below.refl _ _).alloc (Nat.le_refl _) _⟩
theorem one_set3 (k a b c d lo hi : Int) (B : Option Addr) (n cap : Nat) (w : World) (h0 : 1 ≤ k) (h1 : k ≤ 9) (h3 : k ≠ 3) (ha : a = 0) (hb : b = 0) (hc : c ≠ 0) : Calls Tryz.prog 110 #[.agg #[.int .i64 k, .int .u64 a, .int .u64 b, .int .u64 c, .int .u64 d, .slice B n cap, .int .i64 lo, .int .i64 hi]] w fun e w' => e = .returned (.bool false) ∧ Below w.heap.size w w' := by
 subst ha hb
 have hk : (k != 3) = true := by rw [bne_iff_ne]; exact h3
 have hz : (c == 0) = false := by rw [beq_eq_false_iff_ne]; exact hc
 clear h3 hc
 go_enter Tryz.func110, Tryz.ntmps110
 go_wp2
 all_goals go_light
 all_goals go_ret
 all_goals exact ⟨rfl, (Below.refl _ _).alloc (Nat.le_refl _) _⟩
theorem one_set4 (k a b c d lo hi : Int) (B : Option Addr) (n cap : Nat) (w : World) (h0 : 1 ≤ k) (h1 : k ≤ 9) (h3 : k ≠ 3) (ha : a = 0) (hb : b = 0) (hc : c = 0) (hd : d ≠ 0) : Calls Tryz.prog 110 #[.agg #[.int .i64 k, .int .u64 a, .int .u64 b, .int .u64 c, .int .u64 d, .slice B n cap, .int .i64 lo, .int .i64 hi]] w fun e w' => e = .returned (.bool false) ∧ Below w.heap.size w w' := by
 subst ha hb hc
 have hk : (k != 3) = true := by rw [bne_iff_ne]; exact h3
 have hz : (d == 0) = false := by rw [beq_eq_false_iff_ne]; exact hd
 clear h3 hd
 go_enter Tryz.func110, Tryz.ntmps110
 go_wp2
 all_goals go_light
 all_goals go_ret
 all_goals exact ⟨rfl, (Below.refl _ _).alloc (Nat.le_refl _) _⟩
theorem one_rep (lo hi : Int) (B : Option Addr) (n cap : Nat) (w : World) (hn : n ≤ 140737488355328) : Calls Tryz.prog 110 #[.agg #[.int .i64 9, .int .u64 0, .int .u64 0, .int .u64 0, .int .u64 0, .slice B n cap, .int .i64 lo, .int .i64 hi]] w fun e w' => e = .returned (.bool (timesB lo hi && decide (n = 1))) ∧ Below w.heap.size w w' := by
 go_enter Tryz.func110, Tryz.ntmps110
 go_wp2
 all_goals go_light
 all_goals go_ret
 all_goals refine ⟨ret_b ?_, (Below.refl _ _).alloc (Nat.le_refl _) _⟩
 all_goals (rw [Bool.eq_iff_iff]; simp [timesB]; try omega)
theorem one_num (k lo hi : Int) (B : Option Addr) (n cap : Nat) (w : World) (h0 : 1 ≤ k) (h9 : k ≤ 8) (hl : lo ≠ 0 ∨ hi ≠ 0) (hn : n ≤ 140737488355328) : Calls Tryz.prog 110 #[.agg #[.int .i64 k, .int .u64 0, .int .u64 0, .int .u64 0, .int .u64 0, .slice B n cap, .int .i64 lo, .int .i64 hi]] w fun e w' => e = .returned (.bool false) ∧ Below w.heap.size w w' := by
 have hk9 : (k == 9) = false := by rw [beq_eq_false_iff_ne]; omega
 by_cases hl0 : lo = 0
 ·have hh : (hi != 0) = true := by rw [bne_iff_ne]; omega
  subst hl0
  clear hl
  go_enter Tryz.func110, Tryz.ntmps110
  go_wp2
  all_goals go_light
  all_goals go_ret
  all_goals exact ⟨rfl, (Below.refl _ _).alloc (Nat.le_refl _) _⟩
 ·have hh : (lo != 0) = true := by rw [bne_iff_ne]; exact hl0
  clear hl hl0
  go_enter Tryz.func110, Tryz.ntmps110
  go_wp2
  all_goals go_light
  all_goals go_ret
  all_goals exact ⟨rfl, (Below.refl _ _).alloc (Nat.le_refl _) _⟩
theorem one_num3 (a b c d lo hi : Int) (B : Option Addr) (n cap : Nat) (w : World) (hl : lo ≠ 0 ∨ hi ≠ 0) (hn : n ≤ 140737488355328) : Calls Tryz.prog 110 #[.agg #[.int .i64 3, .int .u64 a, .int .u64 b, .int .u64 c, .int .u64 d, .slice B n cap, .int .i64 lo, .int .i64 hi]] w fun e w' => e = .returned (.bool false) ∧ Below w.heap.size w w' := by
 by_cases hl0 : lo = 0
 ·have hh : (hi != 0) = true := by rw [bne_iff_ne]; omega
  subst hl0
  clear hl
  go_enter Tryz.func110, Tryz.ntmps110
  go_wp2
  all_goals go_light
  all_goals go_ret
  all_goals exact ⟨rfl, (Below.refl _ _).alloc (Nat.le_refl _) _⟩
 ·have hh : (lo != 0) = true := by rw [bne_iff_ne]; exact hl0
  clear hl hl0
  go_enter Tryz.func110, Tryz.ntmps110
  go_wp2
  all_goals go_light
  all_goals go_ret
  all_goals exact ⟨rfl, (Below.refl _ _).alloc (Nat.le_refl _) _⟩
theorem one_three (a b c d : Int) (B : Option Addr) (n cap : Nat) (w : World) (hn : n ≤ 140737488355328) : Calls Tryz.prog 110 #[.agg #[.int .i64 3, .int .u64 a, .int .u64 b, .int .u64 c, .int .u64 d, .slice B n cap, .int .i64 0, .int .i64 0]] w fun e w' => e = .returned (.bool (decide (n = 0))) ∧ Below w.heap.size w w' := by
 go_enter Tryz.func110, Tryz.ntmps110
 go_wp2
 all_goals go_light
 all_goals go_ret
 all_goals refine ⟨ret_b ?_, (Below.refl _ _).alloc (Nat.le_refl _) _⟩
 all_goals (rw [Bool.eq_iff_iff]; simp [timesB]; try omega)
theorem onex_leaf (k : Int) (B : Option Addr) (n cap : Nat) (w : World) (h0 : 1 ≤ k) (h9 : k ≤ 2) (hn : n ≤ 140737488355328) : Calls Tryz.prog 110 #[.agg #[.int .i64 k, .int .u64 0, .int .u64 0, .int .u64 0, .int .u64 0, .slice B n cap, .int .i64 0, .int .i64 0]] w fun e w' => e = .returned (.bool (decide (n = 0))) ∧ Below w.heap.size w w' := by
 have hk9 : (k == 9) = false := by rw [beq_eq_false_iff_ne]; omega
 go_enter Tryz.func110, Tryz.ntmps110
 go_wp2
 all_goals go_light
 all_goals go_ret
 all_goals refine ⟨ret_b ?_, (Below.refl _ _).alloc (Nat.le_refl _) _⟩
 all_goals (rw [Bool.eq_iff_iff]; simp [timesB]; try omega)
theorem one_many (k : Int) (B : Option Addr) (n cap : Nat) (w : World) (h0 : 4 ≤ k) (h9 : k ≤ 5) (hn : n ≤ 140737488355328) : Calls Tryz.prog 110 #[.agg #[.int .i64 k, .int .u64 0, .int .u64 0, .int .u64 0, .int .u64 0, .slice B n cap, .int .i64 0, .int .i64 0]] w fun e w' => e = .returned (.bool (decide (2 ≤ n))) ∧ Below w.heap.size w w' := by
 have hk9 : (k == 9) = false := by rw [beq_eq_false_iff_ne]; omega
 go_enter Tryz.func110, Tryz.ntmps110
 go_wp2
 all_goals go_light
 all_goals go_ret
 all_goals refine ⟨ret_b ?_, (Below.refl _ _).alloc (Nat.le_refl _) _⟩
 all_goals (rw [Bool.eq_iff_iff]; simp [timesB]; try omega)
theorem one_over (k : Int) (B : Option Addr) (n cap : Nat) (w : World) (h0 : 6 ≤ k) (h9 : k ≤ 8) (hn : n ≤ 140737488355328) : Calls Tryz.prog 110 #[.agg #[.int .i64 k, .int .u64 0, .int .u64 0, .int .u64 0, .int .u64 0, .slice B n cap, .int .i64 0, .int .i64 0]] w fun e w' => e = .returned (.bool (decide (n = 1))) ∧ Below w.heap.size w w' := by
 have hk9 : (k == 9) = false := by rw [beq_eq_false_iff_ne]; omega
 go_enter Tryz.func110, Tryz.ntmps110
 go_wp2
 all_goals go_light
 all_goals go_ret
 all_goals refine ⟨ret_b ?_, (Below.refl _ _).alloc (Nat.le_refl _) _⟩
 all_goals (rw [Bool.eq_iff_iff]; simp [timesB]; try omega)
theorem arityS_out {k : Int} (h : k < 1 ∨ 9 < k) : arityS k = -1 := by
 unfold arityS
 rw [if_neg (by omega), if_neg (by omega), if_neg (by omega)]
theorem one_any (k a b c d lo hi : Int) (B : Option Addr) (n cap : Nat) (w : World) (hn : n ≤ 140737488355328) : Calls Tryz.prog 110 #[.agg #[.int .i64 k, .int .u64 a, .int .u64 b, .int .u64 c, .int .u64 d, .slice B n cap, .int .i64 lo, .int .i64 hi]] w fun e w' => e = .returned (.bool (aloneV k a b c d n lo hi)) ∧ Below w.heap.size w w' := by
 by_cases hout : k < 1 ∨ 9 < k
 ·have e : aloneV k a b c d n lo hi = false := by
   unfold aloneV
   rw [if_neg (by omega), arityS_out hout]
   split
   ·rfl
   ·rw [if_neg (by omega)]
    simp
  rw [e]
  rcases hout with h | h
  ·exact one_low k a b c d lo hi B n cap w h
  ·exact one_high k a b c d lo hi B n cap w h
 have h1 : 1 ≤ k := by omega
 have h9 : k ≤ 9 := by omega
 by_cases h3 : k = 3
 ·subst h3
  by_cases hl : lo = 0 ∧ hi = 0
  ·obtain ⟨rfl, rfl⟩ := hl
   have e : aloneV 3 a b c d n 0 0 = decide (n = 0) := by unfold aloneV; simp
   rw [e]
   exact one_three a b c d B n cap w hn
  ·have e : aloneV 3 a b c d n lo hi = false := by
    unfold aloneV
    rw [if_pos rfl]
    by_cases h : lo = 0
    ·have : hi ≠ 0 := fun h2 => hl ⟨h, h2⟩
     simp [this]
    ·simp [h]
   rw [e]
   exact one_num3 a b c d lo hi B n cap w (by omega) hn
 by_cases hs : a ≠ 0 ∨ b ≠ 0 ∨ c ≠ 0 ∨ d ≠ 0
 ·have e : aloneV k a b c d n lo hi = false := by unfold aloneV; rw [if_neg h3, if_pos hs]
  rw [e]
  by_cases ha : a = 0
  ·by_cases hb : b = 0
   ·by_cases hc : c = 0
    ·exact one_set4 k a b c d lo hi B n cap w h1 h9 h3 ha hb hc (by omega)
    ·exact one_set3 k a b c d lo hi B n cap w h1 h9 h3 ha hb hc
   ·exact one_set2 k a b c d lo hi B n cap w h1 h9 h3 ha hb
  ·exact one_set1 k a b c d lo hi B n cap w h1 h9 h3 ha
 obtain ⟨rfl, rfl, rfl, rfl⟩ : a = 0 ∧ b = 0 ∧ c = 0 ∧ d = 0 := by omega
 by_cases hk9 : k = 9
 ·subst hk9
  have e : aloneV 9 0 0 0 0 n lo hi = (timesB lo hi && decide (n = 1)) := by unfold aloneV; simp
  rw [e]
  exact one_rep lo hi B n cap w hn
 by_cases hl : lo = 0 ∧ hi = 0
 ·obtain ⟨rfl, rfl⟩ := hl
  have e0 : aloneV k 0 0 0 0 n 0 0 = (if arityS k = 0 then decide (n = 0) else if arityS k = 1 then decide (n = 1) else if arityS k = 2 then decide (2 ≤ n) else false) := by
   unfold aloneV
   rw [if_neg h3, if_neg (by omega), if_neg hk9]
   simp
  rw [e0]
  by_cases hk2 : k ≤ 2
  ·rw [if_pos (by unfold arityS; rw [if_pos (by omega)])]
   exact onex_leaf k B n cap w h1 hk2 hn
  by_cases hk5 : k ≤ 5
  ·have e : arityS k = 2 := by unfold arityS; rw [if_neg (by omega), if_pos (by omega)]
   rw [e, if_neg (by decide), if_neg (by decide), if_pos rfl]
   exact one_many k B n cap w (by omega) hk5 hn
  ·have e : arityS k = 1 := by unfold arityS; rw [if_neg (by omega), if_neg (by omega), if_pos (by omega)]
   rw [e, if_neg (by decide), if_pos rfl]
   exact one_over k B n cap w (by omega) (by omega) hn
 ·have e : aloneV k 0 0 0 0 n lo hi = false := by
   unfold aloneV
   rw [if_neg h3, if_neg (by omega), if_neg hk9]
   by_cases h : lo = 0
   ·have : hi ≠ 0 := fun h2 => hl ⟨h, h2⟩
    simp [this]
   ·simp [h]
  rw [e]
  exact one_num k lo hi B n cap w h1 (by omega) (by omega) hn
def RSizeC (n : Nat) : Prop := ∀ (x : Nd) (P : Nat → Prop) (B : Option Addr) (cap : Nat) (w : World), x.size ≤ n → x.size ≤ 140737488355328 → TreesAt w P x.kids B →
 Calls Tryz.prog 66 #[ndV x B cap] w fun e w' => e = .returned (.int .i64 ((x.size : Nat) : Int)) ∧ Below w.heap.size w w'
def Trees.sizeTo : Trees → Nat → Nat
 | .nil, _ => 0
 | .cons _ _ _ _ _ _, 0 => 0
 | .cons _ _ ks _ _ r, i + 1 => 1 + ks.size + r.sizeTo i
theorem Trees.sizeTo_zero (F : Trees) : F.sizeTo 0 = 0 := by cases F <;> rfl
theorem Trees.sizeTo_succ : ∀ {F : Trees} {i : Nat} {z : Nd}, F.list[i]? = some z → F.sizeTo (i + 1) = F.sizeTo i + z.size
 | .nil, i, z, h => by simp [Trees.list] at h
 | .cons k s ks lo hi r, 0, z, h => by
  simp [Trees.list] at h
  subst h
  simp [Trees.sizeTo, Trees.sizeTo_zero, Nd.size]
 | .cons k s ks lo hi r, i + 1, z, h => by
  have := Trees.sizeTo_succ (F := r) (i := i) (by simpa [Trees.list] using h)
  simp only [Trees.sizeTo] at this ⊢
  omega
theorem Trees.sizeTo_all : ∀ F : Trees, F.sizeTo F.len = F.size
 | .nil => rfl
 | .cons k s ks lo hi r => by
  have := Trees.sizeTo_all r
  simp [Trees.sizeTo, Trees.size, Trees.len, this]
theorem Trees.sizeTo_le : ∀ (F : Trees) (i : Nat), F.sizeTo i ≤ F.size
 | .nil, i => Nat.le_refl _
 | .cons k s ks lo hi r, 0 => Nat.zero_le _
 | .cons k s ks lo hi r, i + 1 => by
  have := Trees.sizeTo_le r i
  simp [Trees.sizeTo, Trees.size]
  omega
theorem rsize_step {n : Nat} (ih : RSizeC n) : RSizeC (n + 1) := by
 intro x P B cap w hsz hlen ht
 have H0 := Lib.hid (show Blk (w.alloc (.cells (ndA x B cap) 28)) w.heap.size 28 (ndA x B cap) ∧ Below w.heap.size w (w.alloc (.cells (ndA x B cap) 28)) from ⟨Blk.new _ _ _, (Below.refl _ _).alloc (Nat.le_refl _) _⟩)
 have HT := Lib.hid ht
 have hlk : x.kids.len ≤ 140737488355328 := by have := Trees.len_size x.kids; unfold Nd.size at hlen; omega
 have hks : x.kids.size + 1 = x.size := by unfold Nd.size; omega
 clear ht
 unfold ndV
 go_enter Tryz.func66, Tryz.ntmps66
 go_wp2
 go_loopw [3, 4] (fun v i wr => ∃ k : Nat, i = .int .i64 (k : Int) ∧ k ≤ x.kids.len ∧ v = .int .i64 ((1 + x.kids.sizeTo k : Nat) : Int) ∧ Hid (Blk wr w.heap.size 28 (ndA x B cap) ∧ Below w.heap.size w wr)) (fun _ i _ => x.kids.len - (intOf i).toNat)
 case atStart => exact ⟨0, rfl, Nat.zero_le _, by rw [Trees.sizeTo_zero]; rfl, H0⟩
 case round =>
  clear H0
  obtain ⟨k, rfl, hk, rfl, HH⟩ := hrel
  have hX := HH.out.1
  have y0 : wr.cell? ⟨w.heap.size, 0, none⟩ = some (.int .i64 x.kind) := hX.cell 0
  have y1 : wr.cell? ⟨w.heap.size, 1, none⟩ = some (.int .u64 (word x.set.testBit 0)) := hX.cell 1
  have y2 : wr.cell? ⟨w.heap.size, 2, none⟩ = some (.int .u64 (word x.set.testBit 1)) := hX.cell 2
  have y3 : wr.cell? ⟨w.heap.size, 3, none⟩ = some (.int .u64 (word x.set.testBit 2)) := hX.cell 3
  have y4 : wr.cell? ⟨w.heap.size, 4, none⟩ = some (.int .u64 (word x.set.testBit 3)) := hX.cell 4
  have y5 : wr.cell? ⟨w.heap.size, 5, none⟩ = some (.slice B x.kids.len cap) := hX.cell 5
  have y6 : wr.cell? ⟨w.heap.size, 6, none⟩ = some (.int .i64 x.lo) := hX.cell 6
  have y7 : wr.cell? ⟨w.heap.size, 7, none⟩ = some (.int .i64 x.hi) := hX.cell 7
  have hle := Trees.sizeTo_le x.kids k
  by_cases hlt : k < x.kids.len
  ·obtain ⟨z, hz⟩ : ∃ z, x.kids.list[k]? = some z := ⟨_, List.getElem?_eq_getElem (by rw [Trees.len_list]; exact hlt)⟩
   have hzs := Trees.size_get x.kids k z hz
   have hst := Trees.sizeTo_succ hz
   have hle2 := Trees.sizeTo_le x.kids (k + 1)
   obtain ⟨b, o, C, capc, rfl, _, _, ⟨c0, c1, c2, c3, c4, c5, c6, c7⟩, hkz⟩ := (HT.out.below HH.out.2).get hz
   have hdl : (k : Int) < (x.kids.len : Int) := by omega
   have hzz : z.size ≤ 140737488355328 := by omega
   have HI := Lib.hid (ih z P C capc wr (by omega) hzz hkz)
   have HS := Lib.hid (show 1 + x.kids.sizeTo (k + 1) = 1 + x.kids.sizeTo k + z.size by omega)
   have hsm : 1 + x.kids.sizeTo k + z.size ≤ 140737488355328 := by omega
   clear hz hzs hkz hX hst hle2 hle
   generalize x.kids.sizeTo k = sk at *
   unfold ndV at HI
   go_wp2_with fail
   refine HI.out.mono ?_
   rintro e w3 ⟨rfl, hb3⟩
   have HH3 := Lib.hid (show _ ∧ _ from ⟨HH.out.1.below hb3 HH.out.1.lt, HH.out.2.trans (hb3.mono HH.out.2.size)⟩)
   clear hb3 HI y0 y1 y2 y3 y4 y5 y6 y7 c0 c1 c2 c3 c4 c5 c6 c7
   dsimp only
   go_wp2
   go_roundw
   case rel => exact ⟨k + 1, by go_num, by omega, congrArg _ (by rw [HS.out]; omega), HH3⟩
   case measure => simp [intOf]; omega
  ·obtain rfl : k = x.kids.len := by omega
   have hdl : ¬ ((x.kids.len : Int) < (x.kids.len : Int)) := by omega
   have HV := Lib.hid (show 1 + x.kids.sizeTo x.kids.len = x.size by rw [Trees.sizeTo_all]; rfl)
   clear hX hle
   go_wp2
   go_light
   go_ret
   exact ⟨ret_i (by have := HV.out; omega), HH.out.2⟩
theorem rsize_go (x : Nd) (P : Nat → Prop) (B : Option Addr) (cap : Nat) (w : World) (hlen : x.size ≤ 140737488355328) (ht : TreesAt w P x.kids B) :
  Calls Tryz.prog 66 #[ndV x B cap] w fun e w' => e = .returned (.int .i64 ((x.size : Nat) : Int)) ∧ Below w.heap.size w w' := by
 have h : ∀ n, RSizeC n := by
  intro n
  induction n with
  | zero => exact fun x _ _ _ _ h => by unfold Nd.size at h; omega
  | succ n ih => exact rsize_step ih
 exact h x.size x P B cap w (Nat.le_refl _) hlen ht
def RAllC (n : Nat) : Prop := ∀ (x : Nd) (P : Nat → Prop) (B : Option Addr) (cap : Nat) (w : World), x.size ≤ n → x.size ≤ 140737488355328 → TreesAt w P x.kids B →
 Calls Tryz.prog 67 #[ndV x B cap] w fun e w' => e = .returned (.bool (x.nodes.all aloneN)) ∧ Below w.heap.size w w'
theorem rall_step {n : Nat} (ih : RAllC n) : RAllC (n + 1) := by
 intro x P B cap w hsz hlen ht
 have H0 := Lib.hid (show Blk (w.alloc (.cells (ndA x B cap) 28)) w.heap.size 28 (ndA x B cap) ∧ Below w.heap.size w (w.alloc (.cells (ndA x B cap) 28)) from ⟨Blk.new _ _ _, (Below.refl _ _).alloc (Nat.le_refl _) _⟩)
 have HT := Lib.hid ht
 have hlk : x.kids.len ≤ 140737488355328 := by have := Trees.len_size x.kids; unfold Nd.size at hlen; omega
 have hks : x.kids.size + 1 = x.size := by unfold Nd.size; omega
 clear ht
 unfold ndV
 go_enter Tryz.func67, Tryz.ntmps67
 go_wp2
 go_loopw [3] (fun i wr => ∃ k : Nat, i = .int .i64 (k : Int) ∧ k ≤ x.kids.len ∧ Hid ((x.kids.upto k).all aloneN = true ∧ Blk wr w.heap.size 28 (ndA x B cap) ∧ Below w.heap.size w wr)) (fun i _ => x.kids.len - (intOf i).toNat)
 case atStart => exact ⟨0, rfl, Nat.zero_le _, Lib.hid ⟨by rw [Trees.upto_zero]; rfl, H0.out⟩⟩
 case round =>
  clear H0
  obtain ⟨k, rfl, hk, HH⟩ := hrel
  have hX := HH.out.2.1
  have y0 : wr.cell? ⟨w.heap.size, 0, none⟩ = some (.int .i64 x.kind) := hX.cell 0
  have y1 : wr.cell? ⟨w.heap.size, 1, none⟩ = some (.int .u64 (word x.set.testBit 0)) := hX.cell 1
  have y2 : wr.cell? ⟨w.heap.size, 2, none⟩ = some (.int .u64 (word x.set.testBit 1)) := hX.cell 2
  have y3 : wr.cell? ⟨w.heap.size, 3, none⟩ = some (.int .u64 (word x.set.testBit 2)) := hX.cell 3
  have y4 : wr.cell? ⟨w.heap.size, 4, none⟩ = some (.int .u64 (word x.set.testBit 3)) := hX.cell 4
  have y5 : wr.cell? ⟨w.heap.size, 5, none⟩ = some (.slice B x.kids.len cap) := hX.cell 5
  have y6 : wr.cell? ⟨w.heap.size, 6, none⟩ = some (.int .i64 x.lo) := hX.cell 6
  have y7 : wr.cell? ⟨w.heap.size, 7, none⟩ = some (.int .i64 x.hi) := hX.cell 7
  by_cases hlt : k < x.kids.len
  ·obtain ⟨z, hz⟩ : ∃ z, x.kids.list[k]? = some z := ⟨_, List.getElem?_eq_getElem (by rw [Trees.len_list]; exact hlt)⟩
   have hzs := Trees.size_get x.kids k z hz
   have hup := Trees.upto_succ hz
   have hpre := Trees.upto_prefix x.kids (k + 1)
   obtain ⟨b, o, C, capc, rfl, _, _, ⟨c0, c1, c2, c3, c4, c5, c6, c7⟩, hkz⟩ := (HT.out.below HH.out.2.2).get hz
   have hdl : (k : Int) < (x.kids.len : Int) := by omega
   have HI := Lib.hid (ih z P C capc wr (by omega) (by omega) hkz)
   unfold ndV at HI
   cases hv : z.nodes.all aloneN
   ·have HV := Lib.hid (show x.nodes.all aloneN = false from by
     cases hx : x.nodes.all aloneN
     ·rfl
     ·have h1 : x.kids.nodes.all aloneN = true := by
       unfold Nd.nodes at hx
       rw [List.all_cons, Bool.and_eq_true] at hx
       exact hx.2
      have h2 := List.all_eq_true.1 h1
      have h3 : z.nodes.all aloneN = true := List.all_eq_true.2 (fun y hy => h2 y (hpre.subset (by rw [hup]; exact List.mem_append_right _ hy)))
      rw [hv] at h3
      cases h3)
    rw [hv] at HI
    clear hz hzs hkz hX hup hpre hv
    go_wp2_with fail
    refine HI.out.mono ?_
    rintro e w3 ⟨rfl, hb3⟩
    have HB3 := Lib.hid (HH.out.2.2.trans (hb3.mono HH.out.2.2.size))
    clear hb3 HI y0 y1 y2 y3 y4 y5 y6 y7 c0 c1 c2 c3 c4 c5 c6 c7
    dsimp only
    go_wp2
    go_light
    go_ret
    exact ⟨ret_b HV.out.symm, HB3.out⟩
   ·have HV := Lib.hid (show (x.kids.upto (k + 1)).all aloneN = true by rw [hup, List.all_append, HH.out.1, hv]; rfl)
    rw [hv] at HI
    clear hz hzs hkz hX hup hpre hv
    go_wp2_with fail
    refine HI.out.mono ?_
    rintro e w3 ⟨rfl, hb3⟩
    have HH3 := Lib.hid (show _ ∧ _ ∧ _ from ⟨HV.out, HH.out.2.1.below hb3 HH.out.2.1.lt, HH.out.2.2.trans (hb3.mono HH.out.2.2.size)⟩)
    clear hb3 HI y0 y1 y2 y3 y4 y5 y6 y7 c0 c1 c2 c3 c4 c5 c6 c7
    dsimp only
    go_wp2
    go_roundw
    case rel => exact ⟨k + 1, by go_num, by omega, HH3⟩
    case measure => simp [intOf]; omega
  ·obtain rfl : k = x.kids.len := by omega
   have hdl : ¬ ((x.kids.len : Int) < (x.kids.len : Int)) := by omega
   have HV := Lib.hid (show x.nodes.all aloneN = aloneN x from by
    have h := HH.out.1
    rw [Trees.upto_all] at h
    unfold Nd.nodes
    rw [List.all_cons, h, Bool.and_true])
   have HC := Lib.hid (one_any x.kind (word x.set.testBit 0 : Nat) (word x.set.testBit 1 : Nat) (word x.set.testBit 2 : Nat) (word x.set.testBit 3 : Nat) x.lo x.hi B x.kids.len cap wr hlk)
   clear hX
   go_wp2_with fail
   refine HC.out.mono ?_
   rintro e w3 ⟨rfl, hb3⟩
   have HB3 := Lib.hid (HH.out.2.2.trans (hb3.mono HH.out.2.2.size))
   clear hb3 HC y0 y1 y2 y3 y4 y5 y6 y7
   dsimp only
   go_wp2
   go_light
   go_ret
   exact ⟨ret_b (by rw [HV.out]; rfl), HB3.out⟩
theorem rall_go (x : Nd) (P : Nat → Prop) (B : Option Addr) (cap : Nat) (w : World) (hlen : x.size ≤ 140737488355328) (ht : TreesAt w P x.kids B) :
  Calls Tryz.prog 67 #[ndV x B cap] w fun e w' => e = .returned (.bool (x.nodes.all aloneN)) ∧ Below w.heap.size w w' := by
 have h : ∀ n, RAllC n := by
  intro n
  induction n with
  | zero => exact fun x _ _ _ _ h => by unfold Nd.size at h; omega
  | succ n ih => exact rall_step ih
 exact h x.size x P B cap w (Nat.le_refl _) hlen ht
theorem rright_any (x : Nd) (P : Nat → Prop) (B : Option Addr) (cap : Nat) (w : World) (hlen : x.size ≤ 140737488355328) (ht : TreesAt w P x.kids B) :
  Calls Tryz.prog 15 #[ndV x B cap] w fun e w' => e = .returned (.bool (rightT x)) ∧ Below w.heap.size w w' := by
 have hb1 : Below w.heap.size w (w.alloc (.cells (ndA x B cap) 28)) := (Below.refl _ _).alloc (Nat.le_refl _) _
 have hx1 := Blk.new w 28 (ndA x B cap)
 have HS := Lib.hid (rsize_go x P B cap _ hlen (ht.below hb1))
 have HA := Lib.hid (fun w2 (hb : Below (w.alloc (.cells (ndA x B cap) 28)).heap.size (w.alloc (.cells (ndA x B cap) 28)) w2) => rall_go x P B cap w2 hlen ((ht.below hb1).below hb))
 have HX := Lib.hid (show _ ∧ _ from ⟨hb1, hx1⟩)
 have hR : rightT x = (decide (x.size ≤ 4096) && x.nodes.all aloneN) := by unfold rightT; rw [Nd.nodes_len]
 clear ht hb1 hx1
 unfold ndV at *
 unfold ndA at *
 by_cases h4 : x.size ≤ 4096
 ·have HV := Lib.hid (show rightT x = x.nodes.all aloneN by rw [hR, decide_eq_true h4, Bool.true_and])
  clear hR
  go_enter Tryz.func15, Tryz.ntmps15
  go_wp2_with fail
  refine HS.out.mono ?_
  rintro e w2 ⟨rfl, hb2⟩
  have hX := HX.out.2.below hb2 HX.out.2.lt
  have y0 : w2.cell? ⟨w.heap.size, 0, none⟩ = some (.int .i64 x.kind) := hX.cell 0
  have y1 : w2.cell? ⟨w.heap.size, 1, none⟩ = some (.int .u64 (word x.set.testBit 0)) := hX.cell 1
  have y2 : w2.cell? ⟨w.heap.size, 2, none⟩ = some (.int .u64 (word x.set.testBit 1)) := hX.cell 2
  have y3 : w2.cell? ⟨w.heap.size, 3, none⟩ = some (.int .u64 (word x.set.testBit 2)) := hX.cell 3
  have y4 : w2.cell? ⟨w.heap.size, 4, none⟩ = some (.int .u64 (word x.set.testBit 3)) := hX.cell 4
  have y5 : w2.cell? ⟨w.heap.size, 5, none⟩ = some (.slice B x.kids.len cap) := hX.cell 5
  have y6 : w2.cell? ⟨w.heap.size, 6, none⟩ = some (.int .i64 x.lo) := hX.cell 6
  have y7 : w2.cell? ⟨w.heap.size, 7, none⟩ = some (.int .i64 x.hi) := hX.cell 7
  have HB2 := Lib.hid (HX.out.1.trans (hb2.mono HX.out.1.size))
  have HI := Lib.hid (HA.out w2 hb2)
  clear hb2 HS HA hX
  dsimp only
  go_wp2_with fail
  refine HI.out.mono ?_
  rintro e w3 ⟨rfl, hb3⟩
  have HB3 := Lib.hid (HB2.out.trans (hb3.mono HB2.out.size))
  clear hb3 HI y0 y1 y2 y3 y4 y5 y6 y7
  dsimp only
  go_wp2
  go_light
  go_ret
  exact ⟨ret_b HV.out.symm, HB3.out⟩
 ·have HV := Lib.hid (show rightT x = false by rw [hR, decide_eq_false h4, Bool.false_and])
  have h4' : 4096 < x.size := by omega
  clear hR h4
  go_enter Tryz.func15, Tryz.ntmps15
  go_wp2_with fail
  refine HS.out.mono ?_
  rintro e w2 ⟨rfl, hb2⟩
  have HB2 := Lib.hid (HX.out.1.trans (hb2.mono HX.out.1.size))
  clear hb2 HS HA
  dsimp only
  go_wp2
  go_light
  go_ret
  exact ⟨ret_b HV.out.symm, HB2.out⟩
theorem lexs_own {w : World} {base : Nat} {v : Value} {L : List Lex} (h : w.ownsRow base 139 8 v L.length (lexCells L)) : ∃ A cap, v = .slice A L.length cap ∧ L.length ≤ cap ∧ LexsAt w w.heap.size A L := by
 obtain ⟨A, cap, rfl⟩ := own_slice h
 refine ⟨A, cap, rfl, ?_, (lexRow_of h).at⟩
 rcases h.2 with ⟨_, h0⟩ | ⟨g, cap', cur, hv, _, _, hle, _⟩
 ·omega
 ·cases hv; exact hle
def LexsOut (r : Except Int (List Lex)) (w : World) (e : Ending) (w' : World) : Prop := Below w.heap.size w w' ∧ match r with
 | .error k => e = .returned (.tuple #[.slice none 0 0, .int .i64 k])
 | .ok L => ∃ v, e = .returned (.tuple #[v, .int .i64 0]) ∧ w'.ownsRow w.heap.size 139 8 v L.length (lexCells L)
theorem lexsS_no {x : Nd} (h : rightT x = false) : lexsS x = .error 6 := by unfold lexsS; rw [if_pos h]
theorem lexsS_bad {x : Nd} (h : rightT x = true) {e : Wrong} (he : lexemesS x.write = .error e) : lexsS x = .error 4 := by unfold lexsS; rw [if_neg (by rw [h]; decide), he]
theorem lexsS_ok {x z : Nd} (h : rightT x = true) (he : lexemesS x.write = .ok z) : lexsS x = .ok x.write := by unfold lexsS; rw [if_neg (by rw [h]; decide), he]
theorem write_small {x : Nd} (h : rightT x = true) : x.write.length ≤ 24576 := by
 have := x.write_len
 have := rightT_size h
 omega
theorem TreeOut.any (r : Except Wrong Nd) : ∃ (z : Nd) (k q : Int), (k = 0 ↔ ∃ z, r = .ok z) ∧ ∀ w e w', (∀ k' q', r = .error (k', q') → k' ≠ 0) → TreeOut r w e w' → ∃ B cap, e = .returned (.tuple #[ndV z B cap, .agg #[.int .i64 k, .int .i64 q]]) ∧ Below w.heap.size w w' := by
 cases r with
 | error e =>
  obtain ⟨k, q⟩ := e
  by_cases hk : k = 0
  ·refine ⟨⟨0, 0, .nil, 0, 0⟩, 1, q, by simp, fun w e w' hn _ => absurd hk (hn k q rfl)⟩
  ·refine ⟨⟨0, 0, .nil, 0, 0⟩, k, q, by simp [hk], fun w e w' _ h => ⟨none, 0, ?_, h.2⟩⟩
   rw [h.1]
   rfl
 | ok z => exact ⟨z, 0, 0, by simp, fun w e w' _ ⟨B, cap, he, hb, _⟩ => ⟨B, cap, he, hb⟩⟩
theorem slexs_go (x : Nd) (B : Option Addr) (cap : Nat) (w : World) (hs : x.size ≤ 4611686018427387903) (ht : TreesAt w (fun b => b < w.heap.size) x.kids B) :
  Calls Tryz.prog 132 #[ndV x B cap] w (LexsOut (lexsS x) w) := by
 have HR := Lib.hid (tright_any x B cap (w.alloc (.cells #[.int .i64 x.kind, .int .u64 (word x.set.testBit 0), .int .u64 (word x.set.testBit 1), .int .u64 (word x.set.testBit 2), .int .u64 (word x.set.testBit 3), .slice B x.kids.len cap, .int .i64 x.lo, .int .i64 x.hi] 28)) hs ((ht.below ((Below.refl _ _).alloc (Nat.le_refl _) _)).weak (fun b h _ => by simp; omega)))
 have HX := Lib.hid (Blk.new w 28 #[.int .i64 x.kind, .int .u64 (word x.set.testBit 0), .int .u64 (word x.set.testBit 1), .int .u64 (word x.set.testBit 2), .int .u64 (word x.set.testBit 3), .slice B x.kids.len cap, .int .i64 x.lo, .int .i64 x.hi])
 have HB := Lib.hid ((Below.refl w.heap.size w).alloc (Nat.le_refl _) (.cells #[.int .i64 x.kind, .int .u64 (word x.set.testBit 0), .int .u64 (word x.set.testBit 1), .int .u64 (word x.set.testBit 2), .int .u64 (word x.set.testBit 3), .slice B x.kids.len cap, .int .i64 x.lo, .int .i64 x.hi] 28))
 have HT := Lib.hid ht
 unfold ndV at HR ⊢
 clear ht
 go_enter Tryz.func132, Tryz.ntmps132
 go_wp2_with fail
 refine HR.out.mono ?_
 rintro e w2 ⟨rfl, hb2⟩
 have hX := HX.out.below hb2 HX.out.lt
 have HB2 := Lib.hid (HB.out.trans (hb2.mono HB.out.size))
 clear hb2 HR HX HB
 dsimp only
 cases hr : rightT x with
 | false =>
  have HV := Lib.hid (lexsS_no hr)
  clear hr
  go_wp2
  go_light
  go_ret2
  rw [HV.out]
  exact ⟨HB2.out, rfl⟩
 | true =>
  have hsz := HB2.out.size
  have hX3 := hX.alloc (.cells #[.slice none 0 0] 208)
  have hne : ¬ w.heap.size = w2.heap.size := by have := hX.lt; omega
  have hwr : WrAt (w2.alloc (.cells #[.slice none 0 0] 208)) w.heap.size w2.heap.size (fun b => b = w2.heap.size) [] := ⟨fun b hb => by subst hb; exact ⟨hsz, by simp⟩, rfl, .slice none 0 0, Blk.new w2 _ _, World.ownsRow_nil _ _ _ _, fun b h => by simp [Value.ownBlock] at h⟩
  have hW := write_go hr B cap w.heap.size w2.heap.size (fun b => b = w2.heap.size) [] (w2.alloc (.cells #[.slice none 0 0] 208)) ((((HT.out.below HB2.out).below ((Below.refl _ _).alloc (Nat.le_refl _) _))).weak (fun b h _ e => by omega)) hwr (by rw [World.size_alloc]; omega) (by have := write_small hr; simp; omega)
  rw [List.nil_append] at hW
  have HB3 := Lib.hid (HB2.out.alloc hsz (.cells #[.slice none 0 0] 208))
  have HW := Lib.hid hW
  unfold ndV at HW
  have HHR := Lib.hid hr
  have n0 := (hX3).cell 0
  have n1 := (hX3).cell 1
  have n2 := (hX3).cell 2
  have n3 := (hX3).cell 3
  have n4 := (hX3).cell 4
  have n5 := (hX3).cell 5
  have n6 := (hX3).cell 6
  have n7 := (hX3).cell 7
  have hlx := (hX3).lt
  simp only [List.getElem?_toArray, List.getElem?_cons_zero, List.getElem?_cons_succ] at n0 n1 n2 n3 n4 n5 n6 n7
  have HX3 := Lib.hid hX3
  clear hX hX3 hwr hW hr
  go_wp2_with fail
  refine HW.out.mono ?_
  rintro e w4 ⟨rfl, S4, hm4, hv4⟩
  obtain ⟨h0, hg, v, hG, hR4, h3⟩ := hm4
  obtain ⟨A, cv, rfl, hcv, hat⟩ := lexs_own hR4
  have s0 := hG.cell 0
  have hlg := hG.lt
  simp only [List.getElem?_toArray, List.getElem?_cons_zero] at s0
  have HB4 := Lib.hid (HB3.out.trans (hv4.below.mono (by omega)))
  have hkk : ∀ k' q', lexemesS x.write = .error (k', q') → k' ≠ 0 := fun k' q' h => lexemesS_kindK h
  obtain ⟨z, k, q, hk0, hany⟩ := TreeOut.any (lexemesS x.write)
  have HC := Lib.hid (Calls.mono (lexemes_go A cv x.write w4 hat (by have := write_small HHR.out; omega) hcv) (R' := fun e w' => ∃ B cap, e = .returned (.tuple #[ndV z B cap, .agg #[.int .i64 k, .int .i64 q]]) ∧ Below w4.heap.size w4 w') (fun e w' h => hany w4 e w' hkk h))
  have HK0 := Lib.hid hk0
  have HR4 := Lib.hid hR4
  have HGG := Lib.hid hG
  clear h0 h3 hG hR4 hat hany hkk hv4 hk0 HW HX3 n0 n1 n2 n3 n4 n5 n6 n7 hlx
  dsimp only
  go_wp2_with fail
  refine HC.out.mono ?_
  rintro e w5 ⟨B5, cap5, rfl, hb5⟩
  have hG5 := HGG.out.below hb5 HGG.out.lt
  have s5 := hG5.cell 0
  have hlg5 := hG5.lt
  simp only [List.getElem?_toArray, List.getElem?_cons_zero] at s5
  have HB5 := Lib.hid (HB4.out.trans (hb5.mono HB4.out.size))
  have HR5 := Lib.hid (own_below HR4.out hb5)
  clear hb5 hG5 HC s0 hlg HGG
  unfold ndV
  dsimp only
  by_cases hk : k = 0
  ·obtain ⟨u, hu⟩ := HK0.out.1 hk
   have HV := Lib.hid (lexsS_ok HHR.out hu)
   clear hu HK0
   subst hk
   go_wp2
   go_light
   go_ret2
   rw [HV.out]
   exact ⟨(HB5.out.alloc HB5.out.size _).alloc (by have := HB5.out.size; simp; omega) _, _, rfl, (HR5.out.alloc _).alloc _⟩
  ·have HV := Lib.hid (show lexsS x = .error 4 by
    cases h : lexemesS x.write with
    | error e => exact lexsS_bad HHR.out h
    | ok z => exact absurd (HK0.out.2 ⟨z, h⟩) hk)
   have hkn : (k != 0) = true := by simpa using hk
   clear HK0 hk
   go_wp2
   go_light
   go_ret2
   rw [HV.out]
   exact ⟨(HB5.out.alloc HB5.out.size _).alloc (by have := HB5.out.size; simp; omega) _, rfl⟩
theorem rlexs_go (x : Nd) (B : Option Addr) (cap : Nat) (w : World) (hs : x.size ≤ 140737488355328) (ht : TreesAt w (fun b => b < w.heap.size) x.kids B) :
  Calls Tryz.prog 134 #[ndV x B cap] w (LexsOut (lexsS x) w) := by
 have HR := Lib.hid (rright_any x (fun b => b < w.heap.size) B cap (w.alloc (.cells #[.int .i64 x.kind, .int .u64 (word x.set.testBit 0), .int .u64 (word x.set.testBit 1), .int .u64 (word x.set.testBit 2), .int .u64 (word x.set.testBit 3), .slice B x.kids.len cap, .int .i64 x.lo, .int .i64 x.hi] 28)) hs (ht.below ((Below.refl _ _).alloc (Nat.le_refl _) _)))
 have HX := Lib.hid (Blk.new w 28 #[.int .i64 x.kind, .int .u64 (word x.set.testBit 0), .int .u64 (word x.set.testBit 1), .int .u64 (word x.set.testBit 2), .int .u64 (word x.set.testBit 3), .slice B x.kids.len cap, .int .i64 x.lo, .int .i64 x.hi])
 have HB := Lib.hid ((Below.refl w.heap.size w).alloc (Nat.le_refl _) (.cells #[.int .i64 x.kind, .int .u64 (word x.set.testBit 0), .int .u64 (word x.set.testBit 1), .int .u64 (word x.set.testBit 2), .int .u64 (word x.set.testBit 3), .slice B x.kids.len cap, .int .i64 x.lo, .int .i64 x.hi] 28))
 have HT := Lib.hid ht
 unfold ndV at HR ⊢
 clear ht
 go_enter Tryz.func134, Tryz.ntmps134
 go_wp2_with fail
 refine HR.out.mono ?_
 rintro e w2 ⟨rfl, hb2⟩
 have hX := HX.out.below hb2 HX.out.lt
 have HB2 := Lib.hid (HB.out.trans (hb2.mono HB.out.size))
 clear hb2 HR HX HB
 dsimp only
 cases hr : rightT x with
 | false =>
  have HV := Lib.hid (lexsS_no hr)
  clear hr
  go_wp2
  go_light
  go_ret2
  rw [HV.out]
  exact ⟨HB2.out, rfl⟩
 | true =>
  have hsz := HB2.out.size
  have HW := Lib.hid (rwrite_go hr (fun b => b < w.heap.size) B cap w2 (HT.out.below HB2.out) (by have := write_small hr; omega))
  unfold ndV at HW
  have HHR := Lib.hid hr
  have n0 := (hX).cell 0
  have n1 := (hX).cell 1
  have n2 := (hX).cell 2
  have n3 := (hX).cell 3
  have n4 := (hX).cell 4
  have n5 := (hX).cell 5
  have n6 := (hX).cell 6
  have n7 := (hX).cell 7
  have hlx := (hX).lt
  simp only [List.getElem?_toArray, List.getElem?_cons_zero, List.getElem?_cons_succ] at n0 n1 n2 n3 n4 n5 n6 n7
  clear hX hr
  go_wp2_with fail
  refine HW.out.mono ?_
  rintro e w4 ⟨v, rfl, hb4, hR4⟩
  have HB4 := Lib.hid (HB2.out.trans (hb4.mono HB2.out.size))
  have HR4 := Lib.hid (hR4.mono (base' := w.heap.size) HB2.out.size)
  obtain ⟨A, cv, rfl, hcv, hat⟩ := lexs_own hR4
  have hkk : ∀ k' q', lexemesS x.write = .error (k', q') → k' ≠ 0 := fun k' q' h => lexemesS_kindK h
  obtain ⟨z, k, q, hk0, hany⟩ := TreeOut.any (lexemesS x.write)
  have HC := Lib.hid (Calls.mono (rlexemes_go A cv x.write w4 hat (by have := write_small HHR.out; omega)) (R' := fun e w' => ∃ B cap, e = .returned (.tuple #[ndV z B cap, .agg #[.int .i64 k, .int .i64 q]]) ∧ Below w4.heap.size w4 w') (fun e w' h => hany w4 e w' hkk h))
  have HK0 := Lib.hid hk0
  clear hR4 hat hany hkk hb4 hk0 HW n0 n1 n2 n3 n4 n5 n6 n7 hlx
  dsimp only
  go_wp2_with fail
  refine HC.out.mono ?_
  rintro e w5 ⟨B5, cap5, rfl, hb5⟩
  have HB5 := Lib.hid (HB4.out.trans (hb5.mono HB4.out.size))
  have HR5 := Lib.hid (own_below HR4.out hb5)
  clear hb5 HC
  unfold ndV
  dsimp only
  by_cases hk : k = 0
  ·obtain ⟨u, hu⟩ := HK0.out.1 hk
   have HV := Lib.hid (lexsS_ok HHR.out hu)
   clear hu HK0
   subst hk
   go_wp2
   go_light
   go_ret2
   rw [HV.out]
   exact ⟨(HB5.out.alloc HB5.out.size _).alloc (by have := HB5.out.size; simp; omega) _, _, rfl, (HR5.out.alloc _).alloc _⟩
  ·have HV := Lib.hid (show lexsS x = .error 4 by
    cases h : lexemesS x.write with
    | error e => exact lexsS_bad HHR.out h
    | ok z => exact absurd (HK0.out.2 ⟨z, h⟩) hk)
   have hkn : (k != 0) = true := by simpa using hk
   clear HK0 hk
   go_wp2
   go_light
   go_ret2
   rw [HV.out]
   exact ⟨(HB5.out.alloc HB5.out.size _).alloc (by have := HB5.out.size; simp; omega) _, rfl⟩
def txtV (r : Except Int (List Nat)) : Value := match r with
 | .error k => .tuple #[.string ⟨#[]⟩, .int .i64 k]
 | .ok t => .tuple #[.string (strOf t), .int .i64 0]
theorem showT_err {x : Nd} {k : Int} (h : lexsS x = .error k) : showT x = .error k := by unfold showT; rw [h]
theorem showT_long {x : Nd} {L : List Lex} (h : lexsS x = .ok L) (hl : 65536 < (joinS L).length) : showT x = .error 4 := by unfold showT; rw [h]; exact if_pos hl
theorem showT_ok {x : Nd} {L : List Lex} (h : lexsS x = .ok L) (hl : ¬ 65536 < (joinS L).length) : showT x = .ok (joinS L) := by unfold showT; rw [h]; exact if_neg hl
theorem lexsS_form {x : Nd} {L : List Lex} (h : lexsS x = .ok L) : L.all rightS = true ∧ L.length ≤ 24576 ∧ rightT x = true ∧ L = x.write := by
 unfold lexsS at h
 split at h
 ·cases h
 ·rename_i hr
  have hr' : rightT x = true := by simpa using hr
  split at h
  ·cases h
  ·cases h
   exact ⟨write_right hr', write_small hr', hr', rfl⟩
theorem lexsS_kind {x : Nd} {k : Int} (h : lexsS x = .error k) : k ≠ 0 := by
 unfold lexsS at h
 split at h
 ·cases h; decide
 ·split at h
  ·cases h; decide
  ·cases h
theorem stext_go (x : Nd) (B : Option Addr) (cap : Nat) (w : World) (hs : x.size ≤ 4611686018427387903) (ht : TreesAt w (fun b => b < w.heap.size) x.kids B) (hT : TabAt 1 Lib.deBruijn64tab w) (hw0 : 1 < w.heap.size) :
  Calls Tryz.prog 90 #[ndV x B cap] w fun e w' => e = .returned (txtV (showT x)) ∧ Below w.heap.size w w' := by
 have HR := Lib.hid (slexs_go x B cap (w.alloc (.cells #[.int .i64 x.kind, .int .u64 (word x.set.testBit 0), .int .u64 (word x.set.testBit 1), .int .u64 (word x.set.testBit 2), .int .u64 (word x.set.testBit 3), .slice B x.kids.len cap, .int .i64 x.lo, .int .i64 x.hi] 28)) hs ((ht.below ((Below.refl _ _).alloc (Nat.le_refl _) _)).weak (fun b h _ => by simp; omega)))
 have HB := Lib.hid ((Below.refl w.heap.size w).alloc (Nat.le_refl _) (.cells #[.int .i64 x.kind, .int .u64 (word x.set.testBit 0), .int .u64 (word x.set.testBit 1), .int .u64 (word x.set.testBit 2), .int .u64 (word x.set.testBit 3), .slice B x.kids.len cap, .int .i64 x.lo, .int .i64 x.hi] 28))
 have HTB := Lib.hid hT
 unfold ndV at HR ⊢
 clear ht hT
 go_enter Tryz.func90, Tryz.ntmps90
 go_wp2_with fail
 refine HR.out.mono ?_
 rintro e w2 ⟨hb2, hr⟩
 have HB2 := Lib.hid (HB.out.trans (hb2.mono HB.out.size))
 clear hb2 HR HB
 cases hl : lexsS x with
 | error k =>
  rw [hl] at hr
  simp only at hr
  subst hr
  have HV := Lib.hid (showT_err hl)
  have hkn : (k != 0) = true := by have := lexsS_kind hl; simpa using this
  clear hl
  dsimp only
  go_wp2
  go_light
  go_ret2
  rw [HV.out]
  exact ⟨rfl, HB2.out⟩
 | ok L =>
  rw [hl] at hr
  simp only at hr
  obtain ⟨v, rfl, hR2⟩ := hr
  obtain ⟨A, cv, rfl, hcv, hat⟩ := lexs_own hR2
  have hf := lexsS_form hl
  have hjv := joinV_ok (L := L) (fun k y hy => List.all_eq_true.1 hf.1 y (List.mem_of_getElem? hy))
  have hj := join_go A cv L w2 hat (by omega) (TabAt.below HB2.out hw0 HTB.out) (Nat.lt_of_lt_of_le hw0 HB2.out.size)
  rw [hjv] at hj
  have HJ := Lib.hid hj
  have HL := Lib.hid hl
  clear hR2 hat hf hjv hj hl
  dsimp only
  go_wp2_with fail
  refine HJ.out.mono ?_
  rintro e w3 ⟨rfl, hb3⟩
  have HB3 := Lib.hid (HB2.out.trans (hb3.mono HB2.out.size))
  have hsl := strOf_size (joinS L)
  clear hb3 HJ
  dsimp only
  by_cases hbig : 65536 < (joinS L).length
  ·have HV := Lib.hid (showT_long HL.out hbig)
   have hbi : (65536 : Int) < ((joinS L).length : Int) := by omega
   clear hbig HL
   go_wp2
   go_light
   go_ret2
   rw [HV.out]
   exact ⟨rfl, HB3.out⟩
  ·have HV := Lib.hid (showT_ok HL.out hbig)
   have hbi : ¬ (65536 : Int) < ((joinS L).length : Int) := by omega
   clear hbig HL
   go_wp2
   go_light
   go_ret2
   rw [HV.out]
   exact ⟨rfl, HB3.out⟩
theorem rtext8_go (x : Nd) (B : Option Addr) (cap : Nat) (w : World) (hs : x.size ≤ 140737488355328) (ht : TreesAt w (fun b => b < w.heap.size) x.kids B) :
  Calls Tryz.prog 91 #[ndV x B cap] w fun e w' => e = .returned (txtV (showT x)) ∧ Below w.heap.size w w' := by
 have HR := Lib.hid (rlexs_go x B cap (w.alloc (.cells #[.int .i64 x.kind, .int .u64 (word x.set.testBit 0), .int .u64 (word x.set.testBit 1), .int .u64 (word x.set.testBit 2), .int .u64 (word x.set.testBit 3), .slice B x.kids.len cap, .int .i64 x.lo, .int .i64 x.hi] 28)) hs ((ht.below ((Below.refl _ _).alloc (Nat.le_refl _) _)).weak (fun b h _ => by simp; omega)))
 have HB := Lib.hid ((Below.refl w.heap.size w).alloc (Nat.le_refl _) (.cells #[.int .i64 x.kind, .int .u64 (word x.set.testBit 0), .int .u64 (word x.set.testBit 1), .int .u64 (word x.set.testBit 2), .int .u64 (word x.set.testBit 3), .slice B x.kids.len cap, .int .i64 x.lo, .int .i64 x.hi] 28))
 unfold ndV at HR ⊢
 clear ht
 go_enter Tryz.func91, Tryz.ntmps91
 go_wp2_with fail
 refine HR.out.mono ?_
 rintro e w2 ⟨hb2, hr⟩
 have HB2 := Lib.hid (HB.out.trans (hb2.mono HB.out.size))
 clear hb2 HR HB
 cases hl : lexsS x with
 | error k =>
  rw [hl] at hr
  simp only at hr
  subst hr
  have HV := Lib.hid (showT_err hl)
  have hkn : (k != 0) = true := by have := lexsS_kind hl; simpa using this
  clear hl
  dsimp only
  go_wp2
  go_light
  go_ret2
  rw [HV.out]
  exact ⟨rfl, HB2.out⟩
 | ok L =>
  rw [hl] at hr
  simp only at hr
  obtain ⟨v, rfl, hR2⟩ := hr
  obtain ⟨A, cv, rfl, hcv, hat⟩ := lexs_own hR2
  have hf := lexsS_form hl
  have hjv := joinV_ok (L := L) (fun k y hy => List.all_eq_true.1 hf.1 y (List.mem_of_getElem? hy))
  have hj := rjoin_go A cv L w2 hat (by omega)
  rw [hjv] at hj
  have HJ := Lib.hid hj
  have HL := Lib.hid hl
  clear hR2 hat hf hjv hj hl
  dsimp only
  go_wp2_with fail
  refine HJ.out.mono ?_
  rintro e w3 ⟨rfl, hb3⟩
  have HB3 := Lib.hid (HB2.out.trans (hb3.mono HB2.out.size))
  have hsl := strOf_size (joinS L)
  clear hb3 HJ
  dsimp only
  by_cases hbig : 65536 < (joinS L).length
  ·have HV := Lib.hid (showT_long HL.out hbig)
   have hbi : (65536 : Int) < ((joinS L).length : Int) := by omega
   clear hbig HL
   go_wp2
   go_light
   go_ret2
   rw [HV.out]
   exact ⟨rfl, HB3.out⟩
  ·have HV := Lib.hid (showT_ok HL.out hbig)
   have hbi : ¬ (65536 : Int) < ((joinS L).length : Int) := by omega
   clear hbig HL
   go_wp2
   go_light
   go_ret2
   rw [HV.out]
   exact ⟨rfl, HB3.out⟩
end Go.Proofs.YtfekpkelmliejaaGreatDoor
