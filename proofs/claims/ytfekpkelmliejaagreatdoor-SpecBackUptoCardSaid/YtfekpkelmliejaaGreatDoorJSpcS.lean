/- Texts of the claim. -/
import Derived.Test.YtfekpkelmliejaaGreatDoorJSpcB
import Derived.Test.YtfekpkelmliejaaGreatDoorJSaidGo
import Derived.Test.YtfekpkelmliejaaGreatDoorJSpecRead
namespace Go.Proofs.YtfekpkelmliejaaGreatDoor
open Go.RowKit Go.Maps
set_option linter.unusedSimpArgs false
set_option linter.unusedVariables false
set_option maxRecDepth 100000
set_option maxHeartbeats 8000000
def RowQ (n₀ : Nat) (u : Value) (rs : List RuleS) (w : World) : Prop := ∃ cs, w.ownsRow n₀ 120 9 u rs.length cs ∧ RulesAre w (fun b => n₀ ≤ b ∧ some b ≠ u.ownBlock) rs cs
theorem rowq_made (w : World) : RowQ w.heap.size (.slice (some ⟨w.heap.size, 0, none⟩) 0 0) [] (w.alloc (.cells #[] 120)) :=
 ⟨[], ⟨rfl, .inr ⟨w.heap.size, 0, #[], rfl, Nat.le_refl _, heap_alloc_new w _, Nat.le_refl _, Nat.zero_le _, rfl, rfl⟩⟩, rfl⟩
theorem RowQ.append {n₀ : Nat} {u : Value} {rs : List RuleS} {w w' : World} {x : RuleS} {B : Option Addr} {cap gg capg : Nat} {o : Obj} {cs : List Value} (hc : RulesAre w (fun b => n₀ ≤ b ∧ some b ≠ u.ownBlock) rs cs)
  (hz : TreesAt w (fun b => n₀ ≤ b ∧ some b ≠ u.ownBlock) x.body.kids B) (hcz : x.body.kids.len ≤ cap)
  (hown : w'.ownsRow n₀ 120 9 (.slice (some ⟨gg, 0, none⟩) (rs.length + 1) capg) (rs.length + 1) (cs ++ ruleCell x B cap)) (hgrow : (w.alloc o).grownBy w' u.ownBlock) (hat : u.ownBlock = some gg ∨ gg = w.heap.size + 1) : RowQ n₀ (.slice (some ⟨gg, 0, none⟩) (rs.length + 1) capg) (rs ++ [x]) w' := by
 have hb : Below w.heap.size w (w.alloc o) := (Below.refl _ _).alloc (Nat.le_refl _) o
 have hk : ∀ b i, (n₀ ≤ b ∧ some b ≠ u.ownBlock) → b < w.heap.size → w'.cell? ⟨b, i, none⟩ = w.cell? ⟨b, i, none⟩ := fun b i hb2 hbl =>
  (World.cell?_of_block (hgrow.block b (by simp; omega) hb2.2)).trans (hb.cell (p := ⟨b, i, none⟩) hbl)
 have hq : ∀ b, (n₀ ≤ b ∧ some b ≠ u.ownBlock) → b < w.heap.size → n₀ ≤ b ∧ some b ≠ (Value.slice (some ⟨gg, 0, none⟩) (rs.length + 1) capg).ownBlock := fun b hb2 hbl => ⟨hb2.1, fun e => by
  have e' : b = gg := by simpa [Value.ownBlock] using e
  rcases hat with hh | hh
  ·exact hb2.2 (by rw [e', hh])
  ·omega⟩
 exact ⟨cs ++ ruleCell x B cap, by simpa using hown, RulesAre.snoc hcz (hz.keep hk hq) (hc.keep hk hq)⟩
theorem said9_go (A : Option Addr) (cap : Nat) (rs : List RuleS) (w : World) (hA : RulesAt w (fun b => b < w.heap.size) rs A) (hcap : rs.length ≤ cap) (hl : rs.length ≤ 64) (hsz : ∀ r ∈ rs, r.body.size ≤ 100000) :
  Calls Tryz.prog 57 #[.slice A rs.length cap] w fun e w' => ∃ A' cap', e = .returned (.slice A' rs.length cap') ∧ Below w.heap.size w w' ∧ RulesAt w' (fun b => w.heap.size ≤ b) (rs.map saidR) A' := by
 obtain ⟨i0, hi, hzr0, hzr1, hzr2⟩ := info_parts info_rule
 have HA := Lib.hid hA
 have HS := Lib.hid hsz
 have HR0 := Lib.hid (rowq_made w)
 have HB0 := Lib.hid ((Below.refl w.heap.size w).alloc (Nat.le_refl _) (.cells #[] 120))
 clear hA hsz
 go_enter Tryz.func57, Tryz.ntmps57
 go_wp2
 go_loopw [3, 4] (fun u i wr => ∃ k : Nat, i = .int .i64 (k : Int) ∧ k ≤ rs.length ∧ Hid (RowQ w.heap.size u ((rs.take k).map saidR) wr) ∧ Hid (Below w.heap.size w wr)) (fun _ i _ => rs.length - (intOf i).toNat)
 case atStart => exact ⟨0, rfl, Nat.zero_le _, HR0, HB0⟩
 case round =>
  clear HR0 HB0
  obtain ⟨k, rfl, hk, HR, HB⟩ := hrel
  by_cases hlt : k < rs.length
  ·obtain ⟨r, hr⟩ : ∃ r, rs[k]? = some r := ⟨_, List.getElem?_eq_getElem hlt⟩
   obtain ⟨b, o, B, capb, rfl, hbw, hbl, _, ⟨c0, c1, c2, c3, c4, c5, c6, c7, c8⟩, ht⟩ := (HA.out.below HB.out).nine hr
   have hdl : (k : Int) < (rs.length : Int) := by omega
   have hkc : (k : Int) ≤ (cap : Int) := by omega
   have HTk := Lib.hid (show (rs.take (k + 1)).map saidR = (rs.take k).map saidR ++ [saidR r] by rw [List.take_add_one, hr]; simp)
   have hacc : ((rs.take k).map saidR).length = k := by simp; omega
   have HI := Lib.hid (said_go r.body (fun b => b < w.heap.size) B capb wr.drew (HS.out r (List.mem_of_getElem? hr)) (TreesAt.keep (w := wr) (w' := wr.drew) (P := fun b => b < w.heap.size) (Q := fun b => b < w.heap.size) (fun _ _ _ _ => rfl) (fun _ h _ => h) ht))
   have hwr := HB.out.size
   generalize (rs.take k).map saidR = acc at *
   unfold ndV at HI
   clear hr ht
   go_upto_region 5 with fail
   refine wp_region_held_drew (S := fun w' => ∀ b' o', b' = b → w'.cell? ⟨b', o', none⟩ = wr.cell? ⟨b', o', none⟩) (by kernel_rfl) (KeepP.start (fun b' => b' = b) wr) (fun hHeld => ?_)
   have hs := KeepP.start (fun b' => b' = b) wr
   unfold KeepP at hs
   refine wpAnyH_take (i := 0) (oi := _) (v := ?_) rfl (by kernel_rfl) (by kernel_rfl) (by kernel_rfl) (fun _ _ _ h => h) (Or.inl ⟨by kernel_rfl, ?_⟩) (by assumption) ?_
   rotate_left
   ·intro w hSw
    try dsimp only at hSw
    go_simp
    try (with_reducible rfl)
   try simp only [Act.put, List.getElem_toArray, List.getElem_cons_zero, List.getElem_cons_succ, List.setIfInBounds_toArray, List.set_cons_zero, List.set_cons_succ]
   refine wpAnyH_take (i := 1) (oi := _) (v := ?_) rfl (by kernel_rfl) (by kernel_rfl) (by kernel_rfl) (fun _ _ _ h => h) (Or.inl ⟨by kernel_rfl, ?_⟩) (by assumption) ?_
   rotate_left
   ·intro w hSw
    try dsimp only at hSw
    go_simp
    try (with_reducible rfl)
   try simp only [Act.put, List.getElem_toArray, List.getElem_cons_zero, List.getElem_cons_succ, List.setIfInBounds_toArray, List.set_cons_zero, List.set_cons_succ]
   refine wpAnyH_take (i := 2) (oi := _) (v := ?_) rfl (by kernel_rfl) (by kernel_rfl) (by kernel_rfl) (fun _ _ _ h => h) (Or.inl ⟨by kernel_rfl, ?_⟩) (by assumption) ?_
   rotate_left
   ·intro w hSw
    try dsimp only at hSw
    go_simp
    try (with_reducible rfl)
   try simp only [Act.put, List.getElem_toArray, List.getElem_cons_zero, List.getElem_cons_succ, List.setIfInBounds_toArray, List.set_cons_zero, List.set_cons_succ]
   refine wpAnyH_take (i := 3) (oi := _) (v := ?_) rfl (by kernel_rfl) (by kernel_rfl) (by kernel_rfl) (fun _ _ _ h => h) (Or.inl ⟨by kernel_rfl, ?_⟩) (by assumption) ?_
   rotate_left
   ·intro w hSw
    try dsimp only at hSw
    go_simp
    try (with_reducible rfl)
   try simp only [Act.put, List.getElem_toArray, List.getElem_cons_zero, List.getElem_cons_succ, List.setIfInBounds_toArray, List.set_cons_zero, List.set_cons_succ]
   refine wpAnyH_take (i := 4) (oi := _) (v := ?_) rfl (by kernel_rfl) (by kernel_rfl) (by kernel_rfl) (fun _ _ _ h => h) (Or.inl ⟨by kernel_rfl, ?_⟩) (by assumption) ?_
   rotate_left
   ·intro w hSw
    try dsimp only at hSw
    go_simp
    try (with_reducible rfl)
   try simp only [Act.put, List.getElem_toArray, List.getElem_cons_zero, List.getElem_cons_succ, List.setIfInBounds_toArray, List.set_cons_zero, List.set_cons_succ]
   refine wpAnyH_take (i := 5) (oi := _) (v := ?_) rfl (by kernel_rfl) (by kernel_rfl) (by kernel_rfl) (fun _ _ _ h => h) (Or.inl ⟨by kernel_rfl, ?_⟩) (by assumption) ?_
   rotate_left
   ·intro w hSw
    try dsimp only at hSw
    go_simp
    try (with_reducible rfl)
   try simp only [Act.put, List.getElem_toArray, List.getElem_cons_zero, List.getElem_cons_succ, List.setIfInBounds_toArray, List.set_cons_zero, List.set_cons_succ]
   refine wpAnyH_take (i := 6) (oi := _) (v := ?_) rfl (by kernel_rfl) (by kernel_rfl) (by kernel_rfl) (fun _ _ _ h => h) (Or.inl ⟨by kernel_rfl, ?_⟩) (by assumption) ?_
   rotate_left
   ·intro w hSw
    try dsimp only at hSw
    go_simp
    try (with_reducible rfl)
   try simp only [Act.put, List.getElem_toArray, List.getElem_cons_zero, List.getElem_cons_succ, List.setIfInBounds_toArray, List.set_cons_zero, List.set_cons_succ]
   refine wpAnyH_take (i := 7) (oi := _) (v := ?_) rfl (by kernel_rfl) (by kernel_rfl) (by kernel_rfl) (fun _ _ _ h => h) (Or.inl ⟨by kernel_rfl, ?_⟩) (by assumption) ?_
   rotate_left
   ·intro w hSw
    try dsimp only at hSw
    go_simp
    try (with_reducible rfl)
   try simp only [Act.put, List.getElem_toArray, List.getElem_cons_zero, List.getElem_cons_succ, List.setIfInBounds_toArray, List.set_cons_zero, List.set_cons_succ]
   refine wpAnyH_take (i := 8) (oi := _) (v := ?_) rfl (by kernel_rfl) (by kernel_rfl) (by kernel_rfl) (fun _ _ _ h => h) (Or.inl ⟨by kernel_rfl, ?_⟩) (by assumption) ?_
   rotate_left
   ·intro w hSw
    try dsimp only at hSw
    go_simp
    try (with_reducible rfl)
   try simp only [Act.put, List.getElem_toArray, List.getElem_cons_zero, List.getElem_cons_succ, List.setIfInBounds_toArray, List.set_cons_zero, List.set_cons_succ]
   refine wpAnyH_take (i := 9) (oi := _) (v := ?_) rfl (by kernel_rfl) (by kernel_rfl) (by kernel_rfl) (fun _ _ _ h => h) (Or.inl ⟨by kernel_rfl, ?_⟩) (by assumption) ?_
   rotate_left
   ·intro w hSw
    try dsimp only at hSw
    go_simp
    try (with_reducible rfl)
   try simp only [Act.put, List.getElem_toArray, List.getElem_cons_zero, List.getElem_cons_succ, List.setIfInBounds_toArray, List.set_cons_zero, List.set_cons_succ]
   refine wpAnyH_take (i := 10) (oi := _) (v := ?_) rfl (by kernel_rfl) (by kernel_rfl) (by kernel_rfl) (fun _ _ _ h => h) (Or.inl ⟨by kernel_rfl, ?_⟩) (by assumption) ?_
   rotate_left
   ·intro w hSw
    try dsimp only at hSw
    go_simp
    try (with_reducible rfl)
   try simp only [Act.put, List.getElem_toArray, List.getElem_cons_zero, List.getElem_cons_succ, List.setIfInBounds_toArray, List.set_cons_zero, List.set_cons_succ]
   refine wpAnyH_ready (rs := [11]) (by kernel_rfl) (by simp) ?_
   refine AllReadyH.cons (o := _) rfl (fun K hK => ?_) AllReadyH.nil
   go_simp
   go_at_call 100
   refine HI.out.mono ?_
   rintro e w4 ⟨B4, cap4, rfl, hb4, hc4, ht4⟩
   have hs4 : ∀ b' o', b' = b → w4.cell? ⟨b', o', none⟩ = wr.cell? ⟨b', o', none⟩ := fun b' o' e => by subst e; exact hb4.cell (p := ⟨b', o', none⟩) hbl
   refine hK.out _ _ hs4 (fun _ => ?_)
   clear hK K HI
   try simp only [Act.put, List.getElem_toArray, List.getElem_cons_zero, List.getElem_cons_succ, List.setIfInBounds_toArray, List.set_cons_zero, List.set_cons_succ]
   have HSR := Lib.hid (show saidR r = ⟨r.name, r.body.said⟩ from rfl)
   generalize r.body.said = y at *
   have hb4' : Below wr.heap.size wr w4 := (Below.refl _ _).drew.trans hb4
   obtain ⟨cs, hr4, hcs4⟩ : RowQ w.heap.size u3 acc w4 := by
    obtain ⟨cs, h1, h2⟩ := HR.out
    exact ⟨cs, own_below h1 hb4', h2.below hb4'⟩
   have hlo := HR.out
   have hz4 : TreesAt w4 (fun b => w.heap.size ≤ b ∧ some b ≠ u3.ownBlock) y.kids B4 := ht4.weak (fun b hb _ => ⟨by simp at hb; omega, fun e => by
    obtain ⟨_, h1, _⟩ := HR.out
    have := (h1.lt b e.symm).2
    simp at hb
    omega⟩)
   have HR4 := Lib.hid hr4
   have HC4 := Lib.hid hcs4
   have HZ4 := Lib.hid hz4
   have HB4 := Lib.hid (HB.out.trans (hb4'.mono HB.out.size))
   have h63 : acc.length + 1 ≤ maxLen := Nat.le_trans (by omega) (show 200000 ≤ maxLen by decide)
   have hby : (acc.length + 1) * 96 ≤ 140737488355328 := by omega
   have hWs : w.heap.size ≤ w4.heap.size := by have := hb4'.size; omega
   have hbl4 : b < w4.heap.size := by have := hb4'.size; omega
   clear hr4 hcs4 hz4 ht4 hlo hb4 hb4' HR c0 c1 c2 c3 c4 c5 c6 c7 c8
   try unfold ndV
   refine wpAnyH_take (i := 12) (oi := _) (v := ?_) rfl (by kernel_rfl) (by kernel_rfl) (by kernel_rfl) (fun _ _ _ h => h) (Or.inl ⟨by kernel_rfl, ?_⟩) (by assumption) ?_
   rotate_left
   ·intro w hSw
    try dsimp only at hSw
    go_simp
    try (with_reducible rfl)
   try simp only [Act.put, List.getElem_toArray, List.getElem_cons_zero, List.getElem_cons_succ, List.setIfInBounds_toArray, List.set_cons_zero, List.set_cons_succ]
   have hs5 : ∀ b' o', b' = b → (w4.alloc (.cells #[.string (strOf r.name), .int .i64 y.kind, .int .u64 (word y.set.testBit 0), .int .u64 (word y.set.testBit 1), .int .u64 (word y.set.testBit 2), .int .u64 (word y.set.testBit 3), .slice B4 y.kids.len cap4, .int .i64 y.lo, .int .i64 y.hi] 120)).cell? ⟨b', o', none⟩ = wr.cell? ⟨b', o', none⟩ := fun b' o' e => (World.cell?_alloc_past (w := w4) _ b' o' (by rw [e]; exact hbl4)).trans (hs4 b' o' e)
   refine wpAnyH_ready (rs := [13]) (by kernel_rfl) (by simp) ?_
   refine AllReadyH.cons (o := _) rfl (fun K hK => ?_) AllReadyH.nil
   go_simp
   refine hK.out _ _ hs5 (fun _ => ?_)
   clear hK K
   try simp only [Act.put, List.getElem_toArray, List.getElem_cons_zero, List.getElem_cons_succ, List.setIfInBounds_toArray, List.set_cons_zero, List.set_cons_succ]
   refine wpAnyH_ready (rs := [14]) (by kernel_rfl) (by simp) ?_
   refine AllReadyH.cons (o := _) rfl (fun K hK => ?_) AllReadyH.nil
   refine step_append_lies _ (by rfl) _ _ _ (by rfl) w.heap.size 120 i0 _ 9 96 Tryz.underlying68 hi hzr0 hzr1 hzr2 rfl (by decide) u3 acc.length cs (by rfl) (HR4.out.alloc _) ⟨w4.heap.size, 0, none⟩ 1 1 (ruleCell ⟨r.name, y⟩ B4 cap4) (by rfl) (by rfl) (World.news_of_block (cs := #[.string (strOf r.name), .int .i64 y.kind, .int .u64 (word y.set.testBit 0), .int .u64 (word y.set.testBit 1), .int .u64 (word y.set.testBit 2), .int .u64 (word y.set.testBit 3), .slice B4 y.kids.len cap4, .int .i64 y.lo, .int .i64 y.hi]) (t := 120) (fr := (0, 0)) (heap_alloc_new w4 _)) (by simp [ruleCell, ndCell, Value.oneCell']) (by decide) h63 hby (by simp; omega) (w4.heap.size + 1) (by simp) ?_
   intro gg capg w5 hown5 hgrow5 hat5 hg5
   have HB5 := Lib.hid ((HB4.out.trans (((Below.refl _ _).alloc (Nat.le_refl _) (.cells #[.string (strOf r.name), .int .i64 y.kind, .int .u64 (word y.set.testBit 0), .int .u64 (word y.set.testBit 1), .int .u64 (word y.set.testBit 2), .int .u64 (word y.set.testBit 3), .slice B4 y.kids.len cap4, .int .i64 y.lo, .int .i64 y.hi] 120)).mono HB4.out.size)).grown hgrow5 (by simp; omega) (fun j e => (HR4.out.lt j e).1))
   have hs6 : ∀ b' o', b' = b → w5.cell? ⟨b', o', none⟩ = wr.cell? ⟨b', o', none⟩ := fun b' o' e => (World.cell?_of_block (hgrow5.block b' (by rw [e]; simp; omega) (fun e2 => by have := (HR4.out.lt b' e2.symm).1; rw [e] at this; omega))).trans (hs5 b' o' e)
   have HA6 := Lib.hid (RowQ.append HC4.out HZ4.out hc4 hown5 hgrow5 (by simpa using hat5))
   refine hK.out _ _ hs6 (fun _ => ?_)
   clear hK K hown5 hgrow5 hat5 HR4 HC4 HZ4 HB4
   try simp only [Act.put, List.getElem_toArray, List.getElem_cons_zero, List.getElem_cons_succ, List.setIfInBounds_toArray, List.set_cons_zero, List.set_cons_succ]
   refine wpAnyH_take (i := 15) (oi := _) (v := ?_) rfl (by kernel_rfl) (by kernel_rfl) (by kernel_rfl) (fun _ _ _ h => h) (Or.inl ⟨by kernel_rfl, ?_⟩) (by assumption) ?_
   rotate_left
   ·intro w hSw
    try dsimp only at hSw
    go_simp
    try (with_reducible rfl)
   try simp only [Act.put, List.getElem_toArray, List.getElem_cons_zero, List.getElem_cons_succ, List.setIfInBounds_toArray, List.set_cons_zero, List.set_cons_succ]
   refine wpAnyH_done (by kernel_rfl) ?_ _
   go_wp2
   go_light
   go_roundw
   case rel => exact ⟨k + 1, by go_num, by omega, by rw [HTk.out, HSR.out]; rw [hacc] at HA6; exact HA6, HB5⟩
   case measure => simp [intOf]; omega
  ·have hdl : ¬ (k : Int) < (rs.length : Int) := by omega
   obtain rfl : k = rs.length := by omega
   rw [List.take_of_length_le (Nat.le_refl _)] at HR
   obtain ⟨cs, h1, h2⟩ := HR.out
   obtain ⟨A', cap', e, _, hr⟩ := rules_of (P := fun b => w.heap.size ≤ b) h1 (h2.keep (fun _ _ _ _ => rfl) (fun b hb _ => hb.1)) (fun g hg => (h1.lt g hg).1)
   have HRl := Lib.hid hr
   rw [List.length_map] at e
   subst e
   clear h1 h2 hr HR HA HS
   go_wp2
   go_light
   go_ret
   exact ⟨A', ⟨cap', rfl⟩, HB.out, HRl.out⟩
end Go.Proofs.YtfekpkelmliejaaGreatDoor
