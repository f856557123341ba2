/- Texts of the claim. -/
import Derived.RangeFuncBox
import Derived.RangeFuncWrites
import Derived.Test.YtfekpkelmliejaaGreatDoorQLines
import Derived.Test.YtfekpkelmliejaaGreatDoorQSpecLine
namespace Go.Proofs.YtfekpkelmliejaaGreatDoor
open Go.RowKit Go.Shelf Go.Maps
set_option linter.unusedSimpArgs false
set_option linter.unusedVariables false
set_option maxRecDepth 100000
set_option maxHeartbeats 8000000
attribute [local go_sem] Oper.semAt_some
theorem headS_kind {rs : List RuleS} {bs : List Nat} {k q : Int} (h : headS rs bs = .error (k, q)) : k ≠ 0 ∧ 0 ≤ q ∧ q ≤ bs.length := by
 have hr := runS_le bs
 unfold headS at h
 repeat' (split at h)
 all_goals (first | (cases h; refine ⟨by decide, ?_, ?_⟩ <;> omega) | cases h)
theorem headS_len {rs : List RuleS} {bs n : List Nat} (h : headS rs bs = .ok n) : n.length < bs.length := by
 have hr := runS_le bs
 unfold headS at h
 repeat' (split at h)
 all_goals cases h
 rename_i h1 h2 h3 h4 h5
 rw [List.length_take]
 omega
theorem lineS_kind {rs : List RuleS} {bs : List Nat} (hb : ∀ x ∈ bs, x < 256) {k q : Int} (h : lineS rs bs = .error (k, q)) : k ≠ 0 ∧ 0 ≤ q ∧ q ≤ bs.length := by
 unfold lineS at h
 cases h1 : headS rs bs with
 | error e =>
  obtain ⟨k', q'⟩ := e
  rw [h1] at h
  cases h
  exact headS_kind h1
 | ok n =>
  rw [h1] at h
  dsimp only at h
  have hl := headS_len h1
  cases h2 : parseS (bs.drop (n.length + 1)) with
  | error e =>
   obtain ⟨k', q'⟩ := e
   rw [h2] at h
   cases h
   have hb' : ∀ x ∈ bs.drop (n.length + 1), x < 256 := fun x hx => hb x (List.mem_of_mem_drop hx)
   have := parseS_at hb' h2
   rw [List.length_drop] at this
   exact ⟨parseS_kindK hb' h2, by omega, by omega⟩
  | ok x => rw [h2] at h; cases h
theorem line_go (n₀ S M B : Nat) (Ar : Option Addr) (b o : Nat) (capr cap : Nat) (rs : List RuleS) (bs : List Nat) (w : World) (hS : RdrAt w S Ar rs.length capr M) (hM : NamesAt w M rs) (hrow : RowIs w n₀ S M (.slice Ar rs.length capr) rs) (hSM : S ≠ M) (hn₀ : n₀ ≤ S) (hn₁ : n₀ ≤ M) (hA : BytesAt w B (some ⟨b, o, none⟩) bs) (hB : B ≤ w.heap.size) (hle : rs.length ≤ 64) (hcap : bs.length ≤ cap) :
  Calls Tryz.prog 96 #[.pointer (some ⟨S, 0, none⟩), .slice (some ⟨b, o, none⟩) bs.length cap] w (LineOut n₀ S M (.slice Ar rs.length capr) rs (lineS rs bs) w) := by
 cases hh : headS rs bs with
 | error e =>
  obtain ⟨k, q⟩ := e
  exact line_head n₀ S M B Ar _ capr cap rs bs w hS hM hA hB hle hcap (headS_kind hh).1 hh
 | ok n =>
  have hn := headS_len hh
  cases hx : parseS (bs.drop (n.length + 1)) with
  | error e =>
   obtain ⟨k, q⟩ := e
   exact line_text n₀ S M B Ar b o capr cap rs bs w hS hM hA hB hle hcap hn hh hx
  | ok x => exact line_ok n₀ S M B Ar b o capr cap rs bs w hS hM hrow hSM hn₀ hn₁ hA hB hle hcap hn hh hx
theorem lineAt_byte {bs : List Nat} {i j : Nat} (hj : j < (lineAt bs i).length) : byteAt (lineAt bs i) j = byteAt bs (i + j) := by
 have hp : lineAt bs i <+: bs.drop i := List.takeWhile_prefix _
 rw [← byteAt_drop, ← byteAt_get hj, ← byteAt_get (Nat.lt_of_lt_of_le hj hp.length_le)]
 exact hp.getElem hj
theorem BytesAt.line {w : World} {B b o : Nat} {bs : List Nat} (h : BytesAt w B (some ⟨b, o, none⟩) bs) (i : Nat) : BytesAt w B (some ⟨b, o + i, none⟩) (lineAt bs i) := by
 have hl := lineAt_len bs i
 refine ⟨fun x hx => h.1 x (List.mem_of_mem_drop ((List.takeWhile_prefix _).subset hx)), by have := h.2.1; omega, fun hp => ?_⟩
 obtain ⟨b', o', e, hb, hc⟩ := h.2.2 (by omega)
 cases e
 refine ⟨b, o + i, rfl, hb, fun j hj => ?_⟩
 rw [lineAt_byte hj, Nat.add_assoc]
 exact hc (i + j) (by omega)
theorem stepS_err {bs : List Nat} {rs : List RuleS} {i : Nat} {k q : Int} (h : ¬ (lineAt bs i = [] ∨ byteAt bs i = 35)) (h2 : lineS rs (lineAt bs i) = .error (k, q)) : stepS bs rs i = .error (k, q + i) := by unfold stepS; rw [if_neg h, h2]
theorem stepS_add {bs : List Nat} {rs : List RuleS} {i : Nat} {r : RuleS} (h : ¬ (lineAt bs i = [] ∨ byteAt bs i = 35)) (h2 : lineS rs (lineAt bs i) = .ok r) : stepS bs rs i = .ok (rs ++ [r]) := by unfold stepS; rw [if_neg h, h2]
theorem lineS_few {rs : List RuleS} {line : List Nat} {r : RuleS} (h : lineS rs line = .ok r) : rs.length ≠ 64 := (headS_ok (lineS_ok h).1).1
theorem TreesAt.keepC {w w' : World} {P : Nat → Prop} (hk : ∀ b o v, w.cell? ⟨b, o, none⟩ = some v → w'.cell? ⟨b, o, none⟩ = some v) : ∀ {F : Trees} {A : Option Addr}, TreesAt w P F A → TreesAt w' P F A
 | .nil, _, _ => trivial
 | .cons k s ks lo hi r, A, ⟨b, o, B, cap, hA, hb, hc, ⟨n0, n1, n2, n3, n4, n5, n6, n7⟩, h1, h2⟩ =>
  ⟨b, o, B, cap, hA, hb, hc, ⟨hk _ _ _ n0, hk _ _ _ n1, hk _ _ _ n2, hk _ _ _ n3, hk _ _ _ n4, hk _ _ _ n5, hk _ _ _ n6, hk _ _ _ n7⟩, TreesAt.keepC hk h1, TreesAt.keepC hk h2⟩
theorem RulesAre.keepC {w w' : World} {P : Nat → Prop} (hk : ∀ b o v, w.cell? ⟨b, o, none⟩ = some v → w'.cell? ⟨b, o, none⟩ = some v) : ∀ {l : List RuleS} {cs : List Value}, RulesAre w P l cs → RulesAre w' P l cs
 | [], cs, h => h
 | x :: l, cs, ⟨B, cap, rest, hcs, hc, ht, hr⟩ => ⟨B, cap, rest, hcs, hc, TreesAt.keepC hk ht, RulesAre.keepC hk hr⟩
theorem RowIs.turned {w w' : World} {n₀ S M : Nat} {v : Value} {rs : List RuleS} {row : Option Nat} (h : RowIs w n₀ S M v rs) (hg : w.grownBy w' row) (hr : ∀ r, row = some r → ∃ o : Obj, w.heap[r]? = some o ∧ o.isCells = false) : RowIs w' n₀ S M v rs := by
 obtain ⟨cs, h1, h2⟩ := h
 have hk : ∀ b o v, w.cell? ⟨b, o, none⟩ = some v → w'.cell? ⟨b, o, none⟩ = some v := fun b o v hc => cell_kept hc hg hr
 refine ⟨cs, h1.kept hg ?_, h2.keepC hk⟩
 rcases h1.2 with ⟨rfl, _⟩ | ⟨g, cap, cur, rfl, _, hgb, _⟩
 ·exact .inl rfl
 ·refine .inr (fun e => ?_)
  obtain ⟨ob, ho, hcl⟩ := hr g (by rw [← e]; rfl)
  rw [hgb] at ho
  cases ho
  cases hcl
theorem Blk.turned {w w' : World} {g : Nat} {t : TypeId} {cs : Array Value} {row : Option Nat} (h : Blk w g t cs) (hg : w.grownBy w' row) (hr : ∀ r, row = some r → ∃ o : Obj, w.heap[r]? = some o ∧ o.isCells = false) : Blk w' g t cs := by
 refine h.grown hg (fun e => ?_)
 obtain ⟨ob, ho, hcl⟩ := hr g e.symm
 rw [show w.heap[g]? = _ from h] at ho
 cases ho
 cases hcl
def RulesOut (r : Except Wrong (List RuleS)) (w : World) (e : Ending) (w' : World) : Prop :=
 match r with
 | .ok rs => ∃ A' cap', e = .returned (.tuple #[.slice A' rs.length cap', .agg #[.int .i64 0, .int .i64 0]]) ∧ Below w.heap.size w w' ∧ rs.length ≤ cap' ∧ RulesAt w' (fun b => w.heap.size ≤ b) rs A'
 | .error (k, q) => e = .returned (.tuple #[.slice none 0 0, .agg #[.int .i64 k, .int .i64 q]]) ∧ Below w.heap.size w w'
theorem ret_rules {fn : Func} {t2 t3 : Tmp} (h : fn.results = #[.cell t2 68, .cell t3 75]) {tmps : Array Value} {w : World} {g g' : Nat} {A : Option Addr} {n c : Nat} {x y : Value}
  (hp : tmps.getD t2 undef = .pointer (some ⟨g, 0, none⟩)) (hp' : tmps.getD t3 undef = .pointer (some ⟨g', 0, none⟩)) (hc : w.cell? ⟨g, 0, none⟩ = some (.slice A n c)) (hb' : Blk w g' 75 #[x, y]) :
  (results fn tmps).run Tryz.prog w = .ok (.tuple #[.slice A n c, .agg #[x, y]]) w := by
 have h2 := run_loadVar_row (P := Tryz.prog) w g' 75 75 #[x, y] (0, 0) _ hb' Tryz.underlying75 rfl (by kernel_rfl)
 have h1 : (loadVar 68 ⟨g, 0, none⟩).run Tryz.prog w = .ok (.slice A n c) w := by simp [go_sem, hc]
 simp only [results, h]
 simp only [Array.getD_eq_getD_getElem?] at hp hp'
 simp [Sem.run_bind, hp, hp', asAddr, h1, h2, Result.andThen]
theorem read_long (A : Option Addr) (cap : Nat) (bs : List Nat) (w : World) (hlen : bs.length ≤ 140737488355328) (h : 65536 < bs.length) :
  Calls Tryz.prog 55 #[.slice A bs.length cap] w (RulesOut (rulesS bs) w) := by
 have HV := Lib.hid (rulesS_long h)
 go_enter Tryz.func55, Tryz.ntmps55
 go_wp2
 go_step3
 go_wp2
 go_light
 rw [Exit.noGoto_ret]
 refine bodyPost_ret (ret_rules Tryz.results55 rfl rfl (Blk.cell (cs := #[.slice none 0 0]) ((Blk.new _ _ _).alloc _) 0) (Blk.new_at (by simp))) rfl ?_
 unfold RulesOut
 rw [HV.out]
 exact ⟨rfl, ((Below.refl _ _).alloc (Nat.le_refl _) _).alloc (by simp) _⟩
theorem read_in (n : Nat) (hn : 3 ≤ n) (A : Option Addr) (b o cap : Nat) (bs : List Nat) (w : World) (hA : BytesAt w w.heap.size (some ⟨b, o, none⟩) bs) (hcap : bs.length ≤ cap) (h65 : bs.length ≤ 65536)
  (hseq : ∀ (m Bs n₀ : Nat) (w' : World), n₀ ≤ Bs → Blk w' Bs 30 #[.slice A bs.length cap] → BytesAt w' n₀ (some ⟨b, o, none⟩) bs → SeqStopsK Fence.wide m Tryz.prog 137 #[.pointer (some ⟨Bs, 0, none⟩)] (lineV b o cap bs) (Kl n₀ Bs) (fun ys => ys.map (·.1) = starts bs 0) (fun pre => pre.map (·.1) <+: starts bs 0) (bs.length + 1) w') :
  CallsIn Fence.wide n Tryz.prog 55 #[.slice A bs.length cap] w (RulesOut (rulesS bs) w) := by
 have h1 : 1 ≤ n := by omega
 have hd0 : decide ((65536 : Int) < (bs.length : Int)) = false := by rw [decide_eq_false_iff_not]; omega
 refine callsIn_of_wp_marks Tryz.func55 rfl trivial ?_ rfl
 simp only [Tryz.ntmps55, List.size_toArray, List.length_cons, List.length_nil, Nat.reduceAdd, Nat.reduceSub, Array.replicate_succ, Array.replicate_zero, List.push_toArray, List.append_toArray, List.nil_append, List.cons_append]
 have hmm := @run_makeMap Tryz.prog
 gi_wp2
 refine wpIn_wide.2 (wp_scope_straight ((wpIn_wide (n := n)).1 ?_))
 gi_wp2
 refine wpIn_wide.2 (wp_label ?_)
 gi_wp2_with (refine ⟨trivial, ?_⟩; gi_at_call 95; refine (callsIn_wide.2 (lines_go A bs.length cap _)).mono ?_; rintro e w' ⟨rfl, rfl⟩)
 have hsz0 : (((((w.alloc (.cells #[.slice none 0 0] 68)).alloc (.cells #[.int .i64 0, .int .i64 0] 75)).alloc (.map #[] 0)).alloc (.cells #[.slice none 0 0, .map (some (w.heap.size + 1 + 1))] 126)).alloc (.cells #[.slice A bs.length cap] 30)).heap.size = w.heap.size + 5 := by simp
 have hB0 : Below w.heap.size w (((((w.alloc (.cells #[.slice none 0 0] 68)).alloc (.cells #[.int .i64 0, .int .i64 0] 75)).alloc (.map #[] 0)).alloc (.cells #[.slice none 0 0, .map (some (w.heap.size + 1 + 1))] 126)).alloc (.cells #[.slice A bs.length cap] 30)) := (((((Below.refl _ w).alloc (Nat.le_refl _) _).alloc (by simp) _).alloc (by simp; omega) _).alloc (by simp; omega) _).alloc (by simp; omega) _
 have bR : Blk (((((w.alloc (.cells #[.slice none 0 0] 68)).alloc (.cells #[.int .i64 0, .int .i64 0] 75)).alloc (.map #[] 0)).alloc (.cells #[.slice none 0 0, .map (some (w.heap.size + 1 + 1))] 126)).alloc (.cells #[.slice A bs.length cap] 30)) w.heap.size 68 #[.slice none 0 0] := ((((Blk.new _ _ _).alloc _).alloc _).alloc _).alloc _
 have bE : Blk (((((w.alloc (.cells #[.slice none 0 0] 68)).alloc (.cells #[.int .i64 0, .int .i64 0] 75)).alloc (.map #[] 0)).alloc (.cells #[.slice none 0 0, .map (some (w.heap.size + 1 + 1))] 126)).alloc (.cells #[.slice A bs.length cap] 30)) (w.heap.size + 1) 75 #[.int .i64 0, .int .i64 0] := (((Blk.new_at (by simp)).alloc _).alloc _).alloc _
 have bS : RdrAt (((((w.alloc (.cells #[.slice none 0 0] 68)).alloc (.cells #[.int .i64 0, .int .i64 0] 75)).alloc (.map #[] 0)).alloc (.cells #[.slice none 0 0, .map (some (w.heap.size + 1 + 1))] 126)).alloc (.cells #[.slice A bs.length cap] 30)) (w.heap.size + 1 + 1 + 1) none 0 0 (w.heap.size + 1 + 1) := (Blk.new_at (by simp)).alloc _
 have bB : Blk (((((w.alloc (.cells #[.slice none 0 0] 68)).alloc (.cells #[.int .i64 0, .int .i64 0] 75)).alloc (.map #[] 0)).alloc (.cells #[.slice none 0 0, .map (some (w.heap.size + 1 + 1))] 126)).alloc (.cells #[.slice A bs.length cap] 30)) (w.heap.size + 1 + 1 + 1 + 1) 30 #[.slice A bs.length cap] := Blk.new_at (by simp)
 have bM : NamesAt (((((w.alloc (.cells #[.slice none 0 0] 68)).alloc (.cells #[.int .i64 0, .int .i64 0] 75)).alloc (.map #[] 0)).alloc (.cells #[.slice none 0 0, .map (some (w.heap.size + 1 + 1))] 126)).alloc (.cells #[.slice A bs.length cap] 30)) (w.heap.size + 1 + 1) [] := by
  have h := NamesAt.new ((w.alloc (.cells #[.slice none 0 0] 68)).alloc (.cells #[.int .i64 0, .int .i64 0] 75))
  rw [World.size_alloc, World.size_alloc] at h
  exact (h.kept (World.grownBy_alloc _ _ none) (by simp)).kept (World.grownBy_alloc _ _ none) (by simp)
 have hA0 := hA.below hB0
 obtain ⟨W0, hW0⟩ : ∃ W0, (((((w.alloc (.cells #[.slice none 0 0] 68)).alloc (.cells #[.int .i64 0, .int .i64 0] 75)).alloc (.map #[] 0)).alloc (.cells #[.slice none 0 0, .map (some (w.heap.size + 1 + 1))] 126)).alloc (.cells #[.slice A bs.length cap] 30)) = W0 := ⟨_, rfl⟩
 rw [hW0] at hsz0 hB0 bR bE bS bB bM hA0 ⊢
 clear hW0
 refine wpIn_rangeFunc_ownG rfl h1 (gf := 137) (lb := #[.pointer (some ⟨w.heap.size + 1 + 1 + 1 + 1, 0, none⟩)]) rfl trivial (enters_of Tryz.func137 (by kernel_rfl) rfl)
  (hseq (n - 1) (w.heap.size + 1 + 1 + 1 + 1) w.heap.size W0 (by omega) bB hA0) (fun h k => h.trans k) (fun W l o o' hl ho hc _ => ⟨⟨rfl, rfl, rfl, by simp, fun k hk => World.putObj_heap_other (by omega)⟩, World.putObj_heap_other (by omega)⟩) (Below.refl _ _) (fun _ => rfl)
  (fun pre W => ∃ rs A' cap', ((foldS bs [] (pre.map (fun x => x.1)) = .ok rs ∧ rs.length ≤ 64) ∧ RdrAt W (w.heap.size + 1 + 1 + 1) A' rs.length cap' (w.heap.size + 1 + 1) ∧ RowIs W (w.heap.size + 1 + 1) (w.heap.size + 1 + 1 + 1) (w.heap.size + 1 + 1) (.slice A' rs.length cap') rs ∧ NamesAt W (w.heap.size + 1 + 1) rs ∧ Blk W w.heap.size 68 #[.slice none 0 0] ∧ Blk W (w.heap.size + 1) 75 #[.int .i64 0, .int .i64 0] ∧ Blk W (w.heap.size + 1 + 1 + 1 + 1) 30 #[.slice A bs.length cap]) ∧ Below w.heap.size w W)
  (fun c pre W => ∃ k q : Int, (c = .ret ∧ foldS bs [] (pre.map (fun x => x.1)) = .error (k, q)) ∧ Blk W w.heap.size 68 #[.slice none 0 0] ∧ Blk W (w.heap.size + 1) 75 #[.int .i64 k, .int .i64 q] ∧ Below w.heap.size w W)
  (fun pre W W' row hs hg hr' => by
   obtain ⟨rs, A', cap', ⟨hf, hS, hR, hM, hr, he, hb⟩, hB⟩ := hs
   have hr2 := fun r e => (hr' r e).2
   exact ⟨rs, A', cap', ⟨hf, Blk.turned hS hg hr2, hR.turned hg hr2, hM.kept hg (fun e => by have := (hr' _ e.symm).1; omega), hr.turned hg hr2, he.turned hg hr2, hb.turned hg hr2⟩, hB.grown hg hB.size (fun k e => by have := (hr' k e).1; omega)⟩)
  (fun c pre W W' row hs hg hr' => by
   obtain ⟨k, q, hf, hr, he, hB⟩ := hs
   have hr2 := fun r e => (hr' r e).2
   exact ⟨k, q, hf, hr.turned hg hr2, he.turned hg hr2, hB.grown hg hB.size (fun k e => by have := (hr' k e).1; omega)⟩)
  ⟨[], none, 0, ⟨⟨rfl, by simp⟩, bS, ⟨[], World.ownsRow_nil _ _ _ _, rfl⟩, bM, bR, bE, bB⟩, hB0⟩
  (fun x => { tmps := #[.slice A bs.length cap, undef, .pointer (some ⟨w.heap.size, 0, none⟩), .pointer (some ⟨w.heap.size + 1, 0, none⟩), .pointer (some ⟨w.heap.size + 1 + 1 + 1, 0, none⟩), .int .i64 (x.1 : Int), .slice (some ⟨b, o + x.1, none⟩) (lineAt bs x.1).length (cap - x.1), undef, .slice A bs.length cap, .int .i64 (bs.length : Int), .bool false, undef, .map (some (w.heap.size + 1 + 1)), .agg #[.slice none 0 0, .map (some (w.heap.size + 1 + 1))], .slice A bs.length cap, .func (.func 137) #[] #[.pointer (some ⟨w.heap.size + 1 + 1 + 1 + 1, 0, none⟩)], .int .i64 (x.1 : Int), .slice (some ⟨b, o + x.1, none⟩) (lineAt bs x.1).length (cap - x.1), undef, undef, undef, undef, undef, undef, undef, undef, undef, undef, undef, undef, undef, undef, undef, undef, undef, undef, undef, undef, undef, undef, undef], defers := [] }) ?assign ?body ?done ?stop
 case assign =>
  intro l x W K hK
  unfold lineV
  gi_wp2
  exact hK
 case body =>
  rintro l pre x W ⟨rs, A', cap', ⟨⟨hf, h64⟩, hS, hR, hM, hr, he, hb⟩, hB⟩ hlt
  have hA1 : BytesAt W w.heap.size (some ⟨b, o, none⟩) bs := hA.below hB
  have hx := x.2
  clear hA0 bB bM bS bE bR hseq hlt
  by_cases h2 : lineAt bs x.1 = [] ∨ byteAt bs x.1 = 35
  ·have HI := Lib.hid (show foldS bs [] ((pre ++ [x]).map (fun x => x.1)) = .ok rs from by
    rw [List.map_append]
    exact (foldS_snoc hf).trans (by unfold stepS; rw [if_pos h2]))
   have HW := Lib.hid (show _ ∧ _ ∧ _ ∧ _ ∧ _ ∧ _ ∧ _ from ⟨hS, hR, hM, hr, he, hB, hb⟩)
   by_cases h3 : lineAt bs x.1 = []
   ·rw [h3]
    clear hf hS hR hM hr he hB hb h2 h3 hA1 hA
    gi_wp2
    exact ⟨KeepsFrom.refl _ _, ⟨Below.refl _ _, rfl⟩, rs, A', cap', ⟨⟨HI.out, h64⟩, HW.out.1, HW.out.2.1, HW.out.2.2.1, HW.out.2.2.2.1, HW.out.2.2.2.2.1, HW.out.2.2.2.2.2.2⟩, HW.out.2.2.2.2.2.1⟩
   ·have h4 : byteAt bs x.1 = 35 := by rcases h2 with h2 | h2; exact absurd h2 h3; exact h2
    have hlp : 0 < (lineAt bs x.1).length := List.length_pos_iff.2 h3
    have hlz : (((lineAt bs x.1).length : Int) == 0) = false := by rw [beq_eq_false_iff_ne]; omega
    obtain ⟨b', o', e, hc, _⟩ := hA1.one hx
    cases e
    rw [h4] at hc
    clear hf hS hR hM hr he hB hb h2 h3 h4 hA1 hA
    generalize (lineAt bs x.1).length = len at *
    gi_wp2
    exact ⟨KeepsFrom.refl _ _, ⟨Below.refl _ _, rfl⟩, rs, A', cap', ⟨⟨HI.out, h64⟩, HW.out.1, HW.out.2.1, HW.out.2.2.1, HW.out.2.2.2.1, HW.out.2.2.2.2.1, HW.out.2.2.2.2.2.2⟩, HW.out.2.2.2.2.2.1⟩
  ·have h3 : lineAt bs x.1 ≠ [] := fun h => h2 (.inl h)
   have h4 : byteAt bs x.1 ≠ 35 := fun h => h2 (.inr h)
   have hlp : 0 < (lineAt bs x.1).length := List.length_pos_iff.2 h3
   have hlz : (((lineAt bs x.1).length : Int) == 0) = false := by rw [beq_eq_false_iff_ne]; omega
   have hll := lineAt_len bs x.1
   obtain ⟨b', o', e, hc, _⟩ := hA1.one hx
   cases e
   have h5 : (((byteAt bs x.1 : Nat) : Int) == 35) = false := by rw [beq_eq_false_iff_ne]; omega
   have hdd : ∀ k : Nat, (Fence.wide.depth.isSome = true → 1 ≤ k) := fun k h => by cases h
   have HC := Lib.hid (line_go (w.heap.size + 1 + 1) (w.heap.size + 1 + 1 + 1) (w.heap.size + 1 + 1) w.heap.size A' b (o + x.1) cap' (cap - x.1) rs (lineAt bs x.1) W hS hM hR (by omega) (by omega) (by omega) (hA1.line x.1) hB.size h64 (by omega))
   have HW := Lib.hid (show _ ∧ _ ∧ _ ∧ _ ∧ _ ∧ _ ∧ _ from ⟨hS, hR, hM, hr, he, hB, hb⟩)
   have hlk := fun (k q : Int) (h : lineS rs (lineAt bs x.1) = .error (k, q)) => lineS_kind (fun c hc => (hA1.line x.1).1 c hc) h
   cases hls : lineS rs (lineAt bs x.1) with
   | error e =>
    obtain ⟨k, q⟩ := e
    have HI := Lib.hid (show foldS bs [] ((pre ++ [x]).map (fun x => x.1)) = .error (k, q + x.1) from by
     rw [List.map_append]
     exact (foldS_snoc hf).trans (stepS_err h2 hls))
    rw [hls] at HC
    obtain ⟨hk, hq0, hq1⟩ := hlk k q hls
    have hk : (k != 0) = true := by rw [bne_iff_ne]; exact hk
    clear hf hS hR hM hr he hB hb h2 h3 h4 hA1 hA hls hlk
    generalize byteAt bs x.1 = c at *
    generalize (lineAt bs x.1).length = len at *
    gi_wp2
    refine ⟨trivial, hdd _, (CallsIn.inRound l (callsIn_wide.2 HC.out)).mono ?_⟩
    rintro e W1 ⟨rfl, hb1⟩
    clear HC
    have hr1 := Blk.below HW.out.2.2.2.1 hb1 HW.out.2.2.2.1.lt
    have he1 := Blk.below HW.out.2.2.2.2.1 hb1 HW.out.2.2.2.2.1.lt
    have HB1 := Lib.hid (HW.out.2.2.2.2.2.1.trans (hb1.mono HW.out.2.2.2.2.2.1.size))
    have HK1 := Lib.hid (show KeepsFrom W0.heap.size W W1 from ⟨hb1.size, fun k o _ hk ho => (hb1.block k (Array.getElem?_eq_some_iff.1 hk).1).trans hk⟩)
    have r0 := hr1.cell 0
    have rf0 := hr1.frozen 0
    obtain ⟨e0, e1, ef0, ef1⟩ := he1.c2
    have hlt0 : w.heap.size < W1.heap.size := hr1.lt
    have hlt1 : w.heap.size + 1 < W1.heap.size := he1.lt
    have hne0 : w.heap.size ≠ W1.heap.size := by omega
    have hne1 : w.heap.size + 1 ≠ W1.heap.size := by omega
    have Hr1 := Lib.hid hr1
    have He1 := Lib.hid he1
    have hxv : (x.1 : Int) ≤ 65536 := by omega
    have hqb : q ≤ 65536 := by omega
    have hw1 : IntKind.i64.wrap (q + (x.1 : Int)) = q + x.1 := by rw [IntKind.wrap_i64]; omega
    clear hb1 hr1 he1
    dsimp only
    gi_wp2
    gi_region
    all_goals gi_wp2
    all_goals (try go_bits)
    all_goals exact ⟨HK1.out.trans ((((KeepsOthers.setCell _ _ _).trans (KeepsOthers.setCell _ _ _)).trans ((KeepsOthers.setCell _ _ _).trans ((KeepsOthers.alloc _ _).trans (KeepsOthers.drew _)))).from _), k, q + x.1, ⟨rfl, HI.out⟩, (((Blk.set_ Hr1.out 0 (.slice none 0 0)).far2 (g' := w.heap.size + 1) (by omega) _ _).alloc _).drew, (((He1.out.far (p := ⟨w.heap.size, 0, none⟩) (by simp) _).set2).alloc _).drew, ((below_set2 (HB1.out.setCell (p := ⟨w.heap.size, 0, none⟩) (Nat.le_refl _) _) (by omega) _ _).alloc (by have := HB1.out.size; simpa [World.setCell] using this) _).drew⟩
   | ok r =>
    have hrl := lineS_few hls
    have HI := Lib.hid (show foldS bs [] ((pre ++ [x]).map (fun x => x.1)) = .ok (rs ++ [r]) from by
     rw [List.map_append]
     exact (foldS_snoc hf).trans (stepS_add h2 hls))
    rw [hls] at HC
    clear hf hS hR hM hr he hB hb h2 h3 h4 hA1 hA hls hlk
    generalize byteAt bs x.1 = c at *
    generalize (lineAt bs x.1).length = len at *
    gi_wp2
    refine ⟨trivial, hdd _, (CallsIn.inRound l (callsIn_wide.2 HC.out)).mono ?_⟩
    rintro e W1 ⟨rfl, hb1, hk1, A2, cap2, hS1, hR1, hM1⟩
    clear HC
    have HZ := Lib.hid (show _ ∧ _ ∧ _ ∧ _ ∧ _ from ⟨hb1, hk1, hS1, hR1, hM1⟩)
    clear hb1 hk1 hS1 hR1 hM1
    dsimp only
    gi_wp2
    obtain ⟨hS, hR, hM, hr, he, hB, hb⟩ := HW.out
    obtain ⟨hb1, hk1, hS1, hR1, hM1⟩ := HZ.out
    obtain ⟨cs, hr0, _⟩ := hR
    have hb1 : Below w.heap.size W W1 := hb1.mono (by omega)
    have hSl := Blk.lt hS
    have hbl := hb.lt
    have hk2 : ∀ {g : Nat} {t : TypeId} {cs' : Array Value}, Blk W g t cs' → t ≠ 120 → g ≠ w.heap.size + 1 + 1 + 1 → g ≠ w.heap.size + 1 + 1 → Blk W1 g t cs' := fun h ht h1 h2 => (hk1.2 _ h.lt h1 h2 (blk_not_row h ht hr0)).trans h
    have hal : Below W1.heap.size W1 (W1.alloc (.cells #[.int .i64 0, .int .i64 0] 75)) := (Below.refl _ _).alloc (Nat.le_refl _) _
    have hkf : KeepsFrom W0.heap.size W W1 := ⟨hk1.1, fun k ob hk ho hcl => (hk1.2 k (Array.getElem?_eq_some_iff.1 ho).1 (by omega) (by omega) (fun e => by
     rcases hr0.2 with ⟨e', _⟩ | ⟨g, cp, cur, e', _, hg, _⟩
     ·rw [e'] at e; simp [Value.ownBlock] at e
     ·rw [e'] at e
      have e : k = g := by simpa [Value.ownBlock] using e
      rw [e, hg] at ho
      cases ho
      cases hcl)).trans ho⟩
    refine ⟨hkf.trans ((KeepsOthers.alloc _ _).from _), ⟨(hb1.trans (hal.mono (by have := hb1.size; have := hB.size; omega))), (hal.block _ (by have := hb1.size; omega)).trans (hk1.2 _ hbl (by omega) (by omega) (blk_not_row hb (by decide) hr0))⟩, rs ++ [r], A2, cap2, ⟨⟨HI.out, by simp; omega⟩, ?_, ?_, hM1.kept (World.grownBy_alloc _ _ none) (by simp), (hk2 hr (by decide) (by omega) (by omega)).alloc _, (hk2 he (by decide) (by omega) (by omega)).alloc _, (hk2 hb (by decide) (by omega) (by omega)).alloc _⟩, hB.trans (hb1.trans (hal.mono (by have := hb1.size; have := hB.size; omega)))⟩
    ·rw [List.length_append]; exact Blk.alloc hS1 _
    ·rw [List.length_append]; exact hR1.below hal
 case done =>
  rintro D ys W hD hys ⟨rs, A', cap', ⟨⟨hf, h64⟩, hS, hR, hM, hr, he, hb⟩, hB⟩ hK
  have HV := Lib.hid (show rulesS bs = .ok rs from by rw [rulesS_fold h65, ← hys]; exact hf)
  have s0 : W.cell? ⟨w.heap.size + 1 + 1 + 1, 0, none⟩ = some (.slice A' rs.length cap') := Blk.cell hS 0
  have r0 := hr.cell 0
  have rf0 := hr.frozen 0
  obtain ⟨e0, e1, ef0, ef1⟩ := he.c2
  have HW := Lib.hid (show _ ∧ _ ∧ _ ∧ _ from ⟨hR, hr, he, hB⟩)
  clear hf hys hS hR hM hr he hb hB hA0 bB bM bS bE bR hseq hA
  gi_wp2
  rw [Exit.noGoto_ret]
  obtain ⟨hR, hr, he, hB⟩ := HW.out
  obtain ⟨cs, hrow, hrs⟩ := hR
  have hKO := ((KeepsOthers.setCell W ⟨w.heap.size, 0, none⟩ (.slice A' rs.length cap')).trans (KeepsOthers.setCell _ ⟨w.heap.size + 1, 0, none⟩ (.int .i64 0))).trans (KeepsOthers.setCell _ ⟨w.heap.size + 1, 1, none⟩ (.int .i64 0))
  have hK2 := hKO.same D _ hK rfl
  refine ⟨by simp, .inl ⟨_, _, rfl, run_takeDeferred hK2, ?_⟩⟩
  have hg2 := grownBy_putObj' (((W.setCell ⟨w.heap.size, 0, none⟩ (.slice A' rs.length cap')).setCell ⟨w.heap.size + 1, 0, none⟩ (.int .i64 0)).setCell ⟨w.heap.size + 1, 1, none⟩ (.int .i64 0)) D (.deferred none)
  have hr2 : ∀ r, some D = some r → ∃ o : Obj, (((W.setCell ⟨w.heap.size, 0, none⟩ (.slice A' rs.length cap')).setCell ⟨w.heap.size + 1, 0, none⟩ (.int .i64 0)).setCell ⟨w.heap.size + 1, 1, none⟩ (.int .i64 0)).heap[r]? = some o ∧ o.isCells = false := fun r e => by cases e; exact ⟨_, hK2, rfl⟩
  have h4r := (((Blk.set_ hr 0 (.slice A' rs.length cap')).far2 (g' := w.heap.size + 1) (by omega) (.int .i64 0) (.int .i64 0))).turned hg2 hr2
  have h4e := ((he.far (p := ⟨w.heap.size, 0, none⟩) (by simp) (.slice A' rs.length cap')).set2 (a' := .int .i64 0) (b' := .int .i64 0)).turned hg2 hr2
  have hneX := blk_not_row hr (by decide) hrow
  have hneE := blk_not_row he (by decide) hrow
  have h3row := own_set (o := 1) (u := .int .i64 0) (own_set (o := 0) (u := .int .i64 0) (own_set (o := 0) (u := .slice A' rs.length cap') hrow hneX) hneE) hneE
  have h3rs : RulesAre (((W.setCell ⟨w.heap.size, 0, none⟩ (.slice A' rs.length cap')).setCell ⟨w.heap.size + 1, 0, none⟩ (.int .i64 0)).setCell ⟨w.heap.size + 1, 1, none⟩ (.int .i64 0)) (TreeB (w.heap.size + 1 + 1) (w.heap.size + 1 + 1 + 1) (w.heap.size + 1 + 1) (.slice A' rs.length cap')) rs cs := hrs.keep (fun b o hb hl => World.cell?_of_block ((Below.heap_setCell _ _ _ b (by have := hb.1; simp; omega)).trans ((Below.heap_setCell _ _ _ b (by have := hb.1; simp; omega)).trans (Below.heap_setCell _ _ _ b (by have := hb.1; simp; omega))))) (fun b hb _ => hb)
  obtain ⟨cs4, h4row, h4rs⟩ := RowIs.turned ⟨cs, h3row, h3rs⟩ hg2 hr2
  obtain ⟨A4, cap4, e4, hc4, hat4⟩ := rules_of (P := fun b => w.heap.size ≤ b) h4row (h4rs.keep (fun _ _ _ _ => rfl) (fun b hb _ => by have := hb.1; omega)) (fun g hg => by have := (h4row.lt g hg).1; omega)
  cases e4
  refine ⟨_, ret_rules Tryz.results55 rfl rfl (h4r.cell 0) h4e, ?_⟩
  unfold RulesOut
  rw [HV.out]
  refine ⟨_, _, rfl, ?_, hc4, hat4⟩
  exact (below_set2 (hB.setCell (p := ⟨w.heap.size, 0, none⟩) (Nat.le_refl _) _) (by omega) _ _).trans (belowK_b (w := w) (Nat.le_refl _) _ D _ _ (by have := hB0.size; omega) hK2 rfl rfl)
 case stop =>
  rintro D c pre W hD hsp ⟨k, q, ⟨rfl, hf⟩, hr, he, hB⟩ hK
  have HV := Lib.hid (show rulesS bs = .error (k, q) from by rw [rulesS_fold h65]; exact foldS_prefix hsp hf)
  gi_wp2
  rw [Exit.noGoto_ret]
  refine ⟨by simp, .inl ⟨_, _, rfl, run_takeDeferred hK, ?_⟩⟩
  have hg2 := grownBy_putObj' W D (.deferred none)
  have hr2 : ∀ r, some D = some r → ∃ o : Obj, W.heap[r]? = some o ∧ o.isCells = false := fun r e => by cases e; exact ⟨_, hK, rfl⟩
  refine ⟨_, ret_rules Tryz.results55 rfl rfl ((hr.turned hg2 hr2).cell 0) (he.turned hg2 hr2), ?_⟩
  unfold RulesOut
  rw [HV.out]
  exact ⟨rfl, hB.trans (belowK_b (w := w) (Nat.le_refl _) _ D _ _ (by have := hB0.size; omega) hK rfl rfl)⟩
theorem lines0_in (n : Nat) (A : Option Addr) (cap : Nat) (l Bs : Nat) {α : Type} (J Jx : List α → World → Prop) (S Sp : List α → Prop) (hS : S []) (W : World) (hBs : Blk W Bs 30 #[.slice A 0 cap]) (h0 : J [] W) :
  CallsIn Fence.wide n Tryz.prog 137 #[.func (.yield l) #[] #[], .pointer (some ⟨Bs, 0, none⟩)] W fun e W' => (∃ v, e = .returned v) ∧ ((∃ ys, S ys ∧ J ys W') ∨ (∃ pre, Sp pre ∧ Jx pre W')) := by
 have cB : W.cell? ⟨Bs, 0, none⟩ = some (.slice A 0 cap) := hBs.cell 0
 have HJ := Lib.hid h0
 clear hBs h0
 refine callsIn_of_wp Tryz.func137 rfl trivial ?_ rfl
 simp only [Tryz.ntmps137, List.size_toArray, List.length_cons, List.length_nil, Nat.reduceAdd, Nat.reduceSub, Array.replicate_succ, Array.replicate_zero, List.push_toArray, List.append_toArray, List.nil_append, List.cons_append]
 gi_wp2
 gi_loopw [3] (fun v wr => v = .int .i64 0 ∧ wr = W) (fun v _ => 0)
 case atStart => exact ⟨rfl, rfl⟩
 case round =>
  obtain ⟨rfl, rfl⟩ := hrel
  gi_wp2
  go_end0
  exact ⟨⟨_, rfl⟩, .inl ⟨[], hS, HJ.out⟩⟩
theorem sread_go (A : Option Addr) (cap : Nat) (bs : List Nat) (w : World) (hA : BytesAt w w.heap.size A bs) (hcap : bs.length ≤ cap) :
  Calls Tryz.prog 55 #[.slice A bs.length cap] w (RulesOut (rulesS bs) w) := by
 rcases Nat.lt_or_ge 65536 bs.length with h | h
 ·exact read_long A cap bs w hA.2.1 h
 ·rcases Nat.eq_zero_or_pos bs.length with h0 | h0
  ·refine callsIn_wide.1 (read_in 3 (Nat.le_refl _) A 0 0 cap bs w (BytesAt.void h0) hcap h (fun m Bs n₀ w' hn hb _ => fun l J Jx W hW hJ _ hY hj => ?_))
   rw [h0] at hb
   exact lines0_in m A cap l Bs J Jx _ _ (by rw [starts_end (by omega)]; rfl) W (hb.below hW hb.lt) hj
  ·obtain ⟨b, o, rfl, _⟩ := hA.2.2 h0
   exact callsIn_wide.1 (read_in 3 (Nat.le_refl _) _ b o cap bs w hA hcap h (fun m Bs n₀ w' hn hb hA' => lines_stops m b o cap bs Bs n₀ w' hcap hn hb hA'))
end Go.Proofs.YtfekpkelmliejaaGreatDoor
