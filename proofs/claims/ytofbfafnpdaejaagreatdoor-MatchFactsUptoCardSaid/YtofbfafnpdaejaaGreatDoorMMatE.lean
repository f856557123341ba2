/- Texts of the claim. -/
import Derived.RangeFuncBox
import Derived.Maps.AppendAt
import Derived.Maps.OwnIn
import Derived.Lib.Hide
import Derived.Stop.RegionWithIn
import Derived.Test.YtofbfafnpdaejaaGreatDoorMZ05
namespace Go.Proofs.YtofbfafnpdaejaaGreatDoor
open Go.RowKit Go.Shelf
set_option linter.unusedSimpArgs false
set_option linter.unusedVariables false
set_option maxRecDepth 100000
set_option maxHeartbeats 8000000
attribute [local go_sem] Oper.semAt_some
noncomputable def soFar (R : RelW) (pre : List Nat) : Nat → Bool := imgB R (fun c => decide (c ∈ pre))
theorem soFar_nil (R : RelW) : soFar R [] = fun _ => false := by
 funext c
 exact imgB_none (fun c => by simp) c
theorem soFar_snoc (z : Nd) (bs : List Nat) (pre : List Nat) (i : Nat) : (fun c => soFar (z.rel bs) pre c || endsB z bs i c) = soFar (z.rel bs) (pre ++ [i]) := setB_ext fun c => by
 rw [Bool.or_eq_true, endsB_iff]
 unfold soFar
 rw [imgB_iff, imgB_iff]
 constructor
 ·rintro (⟨j, h1, h2⟩ | h)
  ·exact ⟨j, by simp at h1 ⊢; exact .inl h1, h2⟩
  ·exact ⟨i, by simp, h⟩
 ·rintro ⟨j, h1, h2⟩
  simp at h1
  rcases h1 with h1 | rfl
  ·exact .inl ⟨j, by simpa using h1, h2⟩
  ·exact .inr h2
theorem soFar_all (R : RelW) {p : Nat → Bool} {n : Nat} (hp : ∀ c, p c = true → c < n) : soFar R (elems p n) = imgB R p := by
 unfold soFar
 have : (fun c => decide (c ∈ elems p n)) = p := setB_ext fun c => by
  unfold elems
  simp
  exact hp c
 rw [this]
structure EachI (x : Nd) (bs : List Nat) (base gm b cp fm cv : Nat) (V : Option Addr) (k : Nat) (w W : World) (s : Nat → Bool) : Prop where
 mat : MatAt W x bs base gm b cp fm V cv
 grown : w.grownBy W (some fm)
 b3 : Blk W w.heap.size 166 #[.pointer (some ⟨gm, 0, none⟩)]
 b4 : Blk W (w.heap.size + 1) 3 #[.int .i64 (k : Int)]
 b6 : Blk W (w.heap.size + 3) 69 #[.int .u64 0, .int .u64 0, .int .u64 0, .int .u64 0, .int .u64 0]
 b7 : Blk W (w.heap.size + 4) 69 #[.int .u64 (word s 0), .int .u64 (word s 1), .int .u64 (word s 2), .int .u64 (word s 3), .int .u64 (word s 4)]
 lt : fm < w.heap.size
theorem EachI.turn {x : Nd} {bs : List Nat} {base gm b cp fm cv k B : Nat} {V : Option Addr} {w W W' : World} {s : Nat → Bool} (h : EachI x bs base gm b cp fm cv V k w W s) (hB : w.heap.size ≤ B) {row : Option Nat} (hg : W.grownBy W' row) (hr : ∀ r, row = some r → B ≤ r ∧ ∃ o : Obj, W.heap[r]? = some o ∧ o.isCells = false) : EachI x bs base gm b cp fm cv V k w W' s := by
 have hc : ∀ (j : Nat) (cs : Array Value) (t : TypeId) (fr : Nat × Nat), W.heap[j]? = some (Obj.cells cs t fr) → W'.heap[j]? = W.heap[j]? := fun j cs t fr hj => hg.block j (Array.getElem?_eq_some_iff.1 hj).1 (fun e => by
  obtain ⟨_, o, h1, h2⟩ := hr j e.symm
  rw [hj] at h1
  cases h1
  cases h2)
 have hlow : ∀ j, j < w.heap.size → some j ≠ row := fun j hj e => by
  have := (hr j e.symm).1
  omega
 have hsz := h.grown.size
 refine ⟨h.mat.stay hc (h.mat.memo.stay (hg.block fm h.mat.memo.lt (hlow fm h.lt))) ((Below.refl base W).grown hg (by have := h.mat.fml; have := h.lt; omega) (fun r e => by have := (hr r e).1; have := h.mat.fml; have := h.lt; omega)),
  ⟨hg.os.trans h.grown.os, hg.tape.trans h.grown.tape, hg.output.trans h.grown.output, Nat.le_trans hsz hg.size, fun j hj hne => (hg.block j (by omega) (hlow j hj)).trans (h.grown.block j hj hne)⟩,
  (hc _ _ _ _ h.b3).trans h.b3, (hc _ _ _ _ h.b4).trans h.b4, (hc _ _ _ _ h.b6).trans h.b6, (hc _ _ _ _ h.b7).trans h.b7, h.lt⟩
theorem Blk.c5w {w : World} {g : Nat} {t : TypeId} {a b c d e : Value} (h : Blk w g t #[a, b, c, d, e]) : w.cell? ⟨g, 0, none⟩ = some a ∧ w.cell? ⟨g, 1, none⟩ = some b ∧ w.cell? ⟨g, 2, none⟩ = some c ∧ w.cell? ⟨g, 3, none⟩ = some d ∧ w.cell? ⟨g, 4, none⟩ = some e := ⟨h.cell 0, h.cell 1, h.cell 2, h.cell 3, h.cell 4⟩
theorem Blk.f5w {w : World} {g : Nat} {t : TypeId} {a b c d e : Value} (h : Blk w g t #[a, b, c, d, e]) : w.frozen? ⟨g, 0, none⟩ = false ∧ w.frozen? ⟨g, 1, none⟩ = false ∧ w.frozen? ⟨g, 2, none⟩ = false ∧ w.frozen? ⟨g, 3, none⟩ = false ∧ w.frozen? ⟨g, 4, none⟩ = false := ⟨h.frozen 0, h.frozen 1, h.frozen 2, h.frozen 3, h.frozen 4⟩
theorem EachI.grow {x : Nd} {bs : List Nat} {base gm b cp fm cv k : Nat} {V : Option Addr} {w W W' : World} {s : Nat → Bool} (h : EachI x bs base gm b cp fm cv V k w W s) (hg : W.grownBy W' (some fm)) (hM : MatAt W' x bs base gm b cp fm V cv) : EachI x bs base gm b cp fm cv V k w W' s := by
 obtain ⟨es, clock, hf, _⟩ := h.mat.memo
 have hc : ∀ {j : Nat} {cs : Array Value} {t : TypeId}, Blk W j t cs → Blk W' j t cs := fun {j cs t} hj => (hg.block j hj.lt (fun e => by
  cases e
  have := (show W.heap[fm]? = _ from hj).symm.trans hf
  cases this)).trans hj
 exact ⟨hM, grown_trans h.grown hg, hc h.b3, hc h.b4, hc h.b6, hc h.b7, h.lt⟩
theorem EachI.low {x : Nd} {bs : List Nat} {base gm b cp fm cv k : Nat} {V : Option Addr} {w W W' : World} {s : Nat → Bool} (h : EachI x bs base gm b cp fm cv V k w W s) (hb : Below W.heap.size W W') : EachI x bs base gm b cp fm cv V k w W' s :=
 ⟨h.mat.below hb, grown_trans h.grown (grown_below hb), h.b3.below hb h.b3.lt, h.b4.below hb h.b4.lt, h.b6.below hb h.b6.lt, h.b7.below hb h.b7.lt, h.lt⟩
def stow5 (W : World) (g : Nat) (p : Nat → Bool) : World := (((((W.setCell ⟨g, 0, none⟩ (.int .u64 (word p 0))).setCell ⟨g, 1, none⟩ (.int .u64 (word p 1))).setCell ⟨g, 2, none⟩ (.int .u64 (word p 2))).setCell ⟨g, 3, none⟩ (.int .u64 (word p 3))).setCell ⟨g, 4, none⟩ (.int .u64 (word p 4)))
theorem Blk.put5 {w : World} {g : Nat} {t : TypeId} {a b c d e : Value} (h : Blk w g t #[a, b, c, d, e]) (p : Nat → Bool) : Blk (stow5 w g p) g t #[.int .u64 (word p 0), .int .u64 (word p 1), .int .u64 (word p 2), .int .u64 (word p 3), .int .u64 (word p 4)] := h.set5w
theorem grown5 (W : World) (g : Nat) (p : Nat → Bool) : W.grownBy (stow5 W g p) (some g) :=
 grown_trans (grown_trans (grown_trans (grown_trans (set_grown W g 0 _) (set_grown _ g 1 _)) (set_grown _ g 2 _)) (set_grown _ g 3 _)) (set_grown _ g 4 _)
theorem grown_over {w W W' : World} {f : Nat} {row : Option Nat} (h : w.grownBy W (some f)) (hg : W.grownBy W' row) (hr : ∀ r, row = some r → w.heap.size ≤ r) : w.grownBy W' (some f) :=
 ⟨hg.os.trans h.os, hg.tape.trans h.tape, hg.output.trans h.output, Nat.le_trans h.size hg.size, fun k hk hne => (hg.block k (Nat.lt_of_lt_of_le hk h.size) (fun e => by have := hr k e.symm; omega)).trans (h.block k hk hne)⟩
theorem MatAt.over {w W W' : World} {x : Nd} {bs : List Nat} {base gm b cp fm cv : Nat} {V : Option Addr} {row : Option Nat} (h : MatAt w x bs base gm b cp fm V cv) (hW : w.grownBy W (some fm)) (hm : MemoAt askV okA (goodM x bs) W fm) (hg : W.grownBy W' row) (hr : ∀ r, row = some r → w.heap.size ≤ r) : MatAt W' x bs base gm b cp fm V cv :=
 h.grown (grown_over hW hg hr) (hm.stay (hg.block fm hm.lt (fun e => by have := hr fm e.symm; have := h.memo.lt; omega)))
theorem EachI.put {x : Nd} {bs : List Nat} {base gm b cp fm cv k : Nat} {V : Option Addr} {w W : World} {s : Nat → Bool} (hM : MatAt w x bs base gm b cp fm V cv) (h : EachI x bs base gm b cp fm cv V k w W s) {g : Nat} (hg : g = w.heap.size + 4) (s' : Nat → Bool) : EachI x bs base gm b cp fm cv V k w (stow5 W g s') s' := by
 subst hg
 have h5 := grown5 W (w.heap.size + 4) s'
 have hr : ∀ r, some (w.heap.size + 4) = some r → w.heap.size ≤ r := fun r e => by cases e; omega
 exact ⟨hM.over h.grown h.mat.memo h5 hr, grown_over h.grown h5 hr, h.b3.grown h5 (by simp), h.b4.grown h5 (by simp), h.b6.grown h5 (by simp), h.b7.put5 s', h.lt⟩
theorem each_body {x z : Nd} {bs : List Nat} {base gm b cp fm cv k B g : Nat} {V : Option Addr} {w W W1 W2 : World} {pre : List Nat} {i : Nat} (hM : MatAt w x bs base gm b cp fm V cv) (hI : EachI x bs base gm b cp fm cv V k w W (soFar (z.rel bs) pre)) (g1 : W.drew.grownBy W1 (some fm)) (h1 : EachI x bs base gm b cp fm cv V k w W1 (soFar (z.rel bs) pre)) (b2 : Below W1.heap.size W1 W2) (h2 : EachI x bs base gm b cp fm cv V k w W2 (soFar (z.rel bs) pre)) (hB : w.heap.size + 4 < B) (hg : g = w.heap.size + 4) :
  KeepsFrom B W (stow5 W2 g (fun c => soFar (z.rel bs) pre c || endsB z bs i c)) ∧
  Below base W (stow5 W2 g (fun c => soFar (z.rel bs) pre c || endsB z bs i c)) ∧
  EachI x bs base gm b cp fm cv V k w (stow5 W2 g (fun c => soFar (z.rel bs) pre c || endsB z bs i c)) (soFar (z.rel bs) (pre ++ [i])) := by
 have hlt := h1.lt
 have hfl := hM.fml
 have g2 : W.grownBy W1 (some fm) := ⟨g1.os, g1.tape, g1.output, g1.size, g1.block⟩
 have s0 := hI.grown.size
 have s1 := h1.grown.size
 have s2 := h2.grown.size
 have g5 := grown5 W2 g (fun c => soFar (z.rel bs) pre c || endsB z bs i c)
 refine ⟨((KeepsFrom.of_grownBy g2 (fun j e => by cases e; omega)).trans (KeepsFrom.of_grownBy (grown_below (r := none) b2) (fun j e => by cases e))).trans (KeepsFrom.of_grownBy g5 (fun j e => by cases e; omega)), ?_, ?_⟩
 ·exact (((Below.refl base W).grown g2 (by omega) (fun k e => by cases e; exact hfl)).trans (b2.mono (by omega))).grown g5 (by omega) (fun k e => by cases e; omega)
 ·have := h2.put hM hg (fun c => soFar (z.rel bs) pre c || endsB z bs i c)
  rw [soFar_snoc] at this
  rw [soFar_snoc]
  exact this
theorem each_end {x : Nd} {bs : List Nat} {base gm b cp fm cv k D g : Nat} {V : Option Addr} {w W : World} {s : Nat → Bool} (hM : MatAt w x bs base gm b cp fm V cv) (hI : EachI x bs base gm b cp fm cv V k w W s) (hK : W.heap[D]? = some (Obj.deferred (some []))) (hD : w.heap.size + 6 ≤ D) (q : Nat → Bool) (hg : g = w.heap.size + 3) :
  (stow5 W g q).heap[D]? = some (Obj.deferred (some [])) ∧ Blk ((stow5 W g q).putObj D (.deferred none)) g 69 #[.int .u64 (word q 0), .int .u64 (word q 1), .int .u64 (word q 2), .int .u64 (word q 3), .int .u64 (word q 4)] ∧ MatAt ((stow5 W g q).putObj D (.deferred none)) x bs base gm b cp fm V cv ∧ w.grownBy ((stow5 W g q).putObj D (.deferred none)) (some fm) := by
 subst hg
 have g5 := grown5 W (w.heap.size + 3) q
 have hlt := hI.lt
 have h1 : (stow5 W (w.heap.size + 3) q).heap[D]? = some (Obj.deferred (some [])) := (g5.block D (Array.getElem?_eq_some_iff.1 hK).1 (by simp; omega)).trans hK
 have gp := grownBy_putObj' (stow5 W (w.heap.size + 3) q) D (.deferred none)
 have hr : ∀ r, some (w.heap.size + 3) = some r → w.heap.size ≤ r := fun r e => by cases e; omega
 have hr2 : ∀ r, some D = some r → w.heap.size ≤ r := fun r e => by cases e; omega
 have g6 := grown_over hI.grown g5 hr
 refine ⟨h1, (hI.b6.put5 q).grown gp (by simp; omega), ?_, grown_over g6 gp hr2⟩
 exact hM.over g6 (hI.mat.memo.stay (g5.block fm hI.mat.memo.lt (by simp; omega))) gp hr2
theorem each_in (n : Nat) (hn : 3 ≤ n) (x : Nd) (bs : List Nat) (z : Nd) (hE : EndsC x bs z) (base gm b cp fm cv : Nat) (V : Option Addr) (w : World) (hM : MatAt w x bs base gm b cp fm V cv) (k : Nat) (p : Nat → Bool) (hk : Below1 x.nodes k z) (hp : ∀ c, p c = true → c ≤ bs.length) :
  CallsIn Fence.wide n Tryz.prog 186 #[.pointer (some ⟨gm, 0, none⟩), .int .i64 (k : Int), .agg #[.int .u64 (word p 0), .int .u64 (word p 1), .int .u64 (word p 2), .int .u64 (word p 3), .int .u64 (word p 4)]] w fun e w' => e = .returned (.agg #[.int .u64 ((word (imgB (z.rel bs) p) 0 : Nat) : Int), .int .u64 ((word (imgB (z.rel bs) p) 1 : Nat) : Int), .int .u64 ((word (imgB (z.rel bs) p) 2 : Nat) : Int), .int .u64 ((word (imgB (z.rel bs) p) 3 : Nat) : Int), .int .u64 ((word (imgB (z.rel bs) p) 4 : Nat) : Int)]) ∧ MatAt w' x bs base gm b cp fm V cv ∧ w.grownBy w' (some fm) := by
 have h1 : 1 ≤ n := by omega
 have hlen := hM.len
 have hlm := hM.box.lt
 refine callsIn_of_wp_marks Tryz.func186 rfl trivial ?_ rfl
 simp only [Tryz.ntmps186, List.size_toArray, List.length_cons, List.length_nil, Nat.reduceAdd, Nat.reduceSub, Array.replicate_succ, Array.replicate_zero, List.push_toArray, List.append_toArray, List.nil_append, List.cons_append]
 gi_wp2_with (refine ⟨trivial, ?_⟩; gi_at_call 150; refine (callsIn_wide.2 (pall_go p _)).mono ?_; rintro e w' ⟨rfl, rfl⟩)
 obtain ⟨W0, hW0⟩ : ∃ W0, (((((w.alloc (.cells #[.pointer (some ⟨gm, 0, none⟩)] 166)).alloc (.cells #[.int .i64 (k : Int)] 3)).alloc (.cells #[.int .u64 (word p 0), .int .u64 (word p 1), .int .u64 (word p 2), .int .u64 (word p 3), .int .u64 (word p 4)] 69)).alloc (.cells #[.int .u64 0, .int .u64 0, .int .u64 0, .int .u64 0, .int .u64 0] 69)).alloc (.cells #[.int .u64 0, .int .u64 0, .int .u64 0, .int .u64 0, .int .u64 0] 69)).alloc (.cells #[.int .u64 (word p 0), .int .u64 (word p 1), .int .u64 (word p 2), .int .u64 (word p 3), .int .u64 (word p 4)] 69) = W0 := ⟨_, rfl⟩
 have hs0 : W0.heap.size = w.heap.size + 6 := by rw [← hW0]; simp
 have hb0 : Below w.heap.size w W0 := by
  rw [← hW0]
  exact ((((((Below.refl _ w).alloc (Nat.le_refl _) _).alloc (by simp) _).alloc (by simp; omega) _).alloc (by simp; omega) _).alloc (by simp; omega) _).alloc (by simp; omega) _
 have hP0 : Blk W0 (w.heap.size + 5) 69 #[.int .u64 (word p 0), .int .u64 (word p 1), .int .u64 (word p 2), .int .u64 (word p 3), .int .u64 (word p 4)] := by rw [← hW0]; exact Blk.new_at (by simp)
 have hI0 : EachI x bs base gm b cp fm cv V k w W0 (fun _ => false) := ⟨hM.below hb0, grown_below hb0, by rw [← hW0]; exact (((((Blk.new w _ _).alloc _).alloc _).alloc _).alloc _).alloc _, by rw [← hW0]; exact ((((Blk.new_at (by simp)).alloc _).alloc _).alloc _).alloc _, by rw [← hW0]; exact ((Blk.new_at (by simp)).alloc _).alloc _, by rw [← hW0]; simp only [word_none]; exact (Blk.new_at (by simp)).alloc _, hM.memo.lt⟩
 rw [hW0]
 refine wpIn_rangeFunc_ownG rfl h1 (gf := 173) (lb := #[.pointer (some ⟨w.heap.size + 5, 0, none⟩)]) rfl trivial (enters_of Tryz.func173 (by kernel_rfl) rfl)
  (pall_sub (n - 1) (by omega) p bs.length hp (w.heap.size + 5) base W0 hM.tabl (by omega) hP0 hI0.mat.tab) belowK_t (belowK_b (by have := hM.fml; have := hM.memo.lt; omega)) (Below.refl _ _) (fun _ => rfl)
  (fun pre W => EachI x bs base gm b cp fm cv V k w W (soFar (z.rel bs) (pre.map (fun q : {c : Nat // c ≤ bs.length} => q.1))))
  (fun _ _ _ => False)
  (fun (s : List {c : Nat // c ≤ bs.length}) W W' row h hg hr => EachI.turn h (B := W0.heap.size) (by omega) hg hr)
  (fun _ _ _ _ _ hs _ _ => hs)
  (by rw [List.map_nil, soFar_nil]; exact hI0)
  (fun i => { tmps := #[.pointer (some ⟨gm, 0, none⟩), .int .i64 (k : Int), .agg #[.int .u64 (word p 0), .int .u64 (word p 1), .int .u64 (word p 2), .int .u64 (word p 3), .int .u64 (word p 4)], .pointer (some ⟨w.heap.size, 0, none⟩), .pointer (some ⟨w.heap.size + 1, 0, none⟩), .pointer (some ⟨w.heap.size + 2, 0, none⟩), .pointer (some ⟨w.heap.size + 3, 0, none⟩), .pointer (some ⟨w.heap.size + 4, 0, none⟩), .int .i64 (i.1 : Int), .agg #[.int .u64 (word p 0), .int .u64 (word p 1), .int .u64 (word p 2), .int .u64 (word p 3), .int .u64 (word p 4)], .func (.func 173) #[] #[.pointer (some ⟨w.heap.size + 5, 0, none⟩)], .int .i64 (i.1 : Int), undef, undef, undef, undef, undef, undef, undef], defers := [] }) ?assign ?body ?done ?stop
 case assign =>
  intro l i W K hK
  unfold placeArg
  gi_wp2
  exact hK
 case body =>
  rintro l pre i W hI hlt
  have a3 := hI.b3.cell 0
  have a4 := hI.b4.cell 0
  have l3 := hI.b3.lt
  have l4 := hI.b4.lt
  have l7 := hI.b7.lt
  have a7 := hI.b7.c5w
  have f7 := hI.b7.f5w
  simp only [List.getElem?_toArray, List.getElem?_cons_zero] at a3 a4
  have HI := Lib.hid hI
  have HId := Lib.hid (EachI.low hI (W' := W.drew) ⟨rfl, rfl, rfl, Nat.le_refl _, fun _ _ => rfl⟩)
  have HEn := Lib.hid (hE base gm b cp fm cv V W.drew HId.out.mat k i.1 hk i.2)
  have hdd : ∀ k : Nat, (Fence.wide.depth.isSome = true → 1 ≤ k) := fun k h => by cases h
  obtain ⟨c0, c1, c2, c3, c4⟩ := a7
  obtain ⟨f0, f1, f2, f3, f4⟩ := f7
  clear hI
  gi_wp2
  gi_region_with (first
   | (refine ⟨trivial, hdd _, ?_⟩; gi_at_call 112; refine (CallsIn.inRound l (callsIn_wide.2 HEn.out)).mono ?_; rintro e W1 ⟨rfl, hM1, hg1⟩; have HI1 := Lib.hid (HId.out.grow hg1 hM1); have HG1 := Lib.hid hg1; clear hM1 hg1; obtain ⟨c0, c1, c2, c3, c4⟩ := HI1.out.b7.c5w; obtain ⟨f0, f1, f2, f3, f4⟩ := HI1.out.b7.f5w)
   | (refine ⟨trivial, hdd _, ?_⟩; gi_at_call 187; refine (CallsIn.inRound l (callsIn_wide.2 (pwith_go (soFar (z.rel bs) (pre.map (fun q : {c : Nat // c ≤ bs.length} => q.1))) (endsB z bs i.1) W1))).mono ?_; rintro e W2 ⟨rfl, hb2⟩; have HI2 := Lib.hid (HI1.out.low hb2); have HB2 := Lib.hid hb2; clear hb2; obtain ⟨c0, c1, c2, c3, c4⟩ := HI2.out.b7.c5w; obtain ⟨f0, f1, f2, f3, f4⟩ := HI2.out.b7.f5w; have l7 := HI2.out.b7.lt))
  all_goals gi_wp2
  all_goals refine (?_ : KeepsFrom W0.heap.size W _ ∧ Below base W _ ∧ EachI x bs base gm b cp fm cv V k w _ (soFar (z.rel bs) ((pre ++ [i]).map (fun q : {c : Nat // c ≤ bs.length} => q.1))))
  all_goals rw [List.map_append]
  all_goals exact each_body (i := i.1) hM HI.out HG1.out HI1.out HB2.out HI2.out (B := W0.heap.size) (by omega) rfl
 case done =>
  rintro D ys W hD hy hI hK
  have hsf : soFar (z.rel bs) (ys.map (fun q : {c : Nat // c ≤ bs.length} => q.1)) = imgB (z.rel bs) p := by
   rw [hy]
   exact soFar_all _ (fun c hc => by have := hp c hc; omega)
  rw [hsf] at hI
  have l6 := hI.b6.lt
  have l7 := hI.b7.lt
  obtain ⟨c0, c1, c2, c3, c4⟩ := hI.b7.c5w
  obtain ⟨d0, d1, d2, d3, d4⟩ := hI.b6.c5w
  obtain ⟨f0, f1, f2, f3, f4⟩ := hI.b6.f5w
  have HI := Lib.hid hI
  have HK := Lib.hid hK
  clear hI hK
  gi_wp2
  obtain ⟨e1, e2, e3, e4⟩ := each_end hM HI.out HK.out (g := w.heap.size + 1 + 1 + 1) (by omega) (imgB (z.rel bs) p) rfl
  refine ⟨by simp, .inl ⟨_, _, rfl, run_takeDeferred e1, ?_⟩⟩
  exact ⟨_, ret_pl Tryz.results186 rfl e2, rfl, e3, e4⟩
 case stop =>
  rintro D c pre W _ _ h _
  exact h.elim
theorem eachC_of {x : Nd} {bs : List Nat} {z : Nd} (hE : EndsC x bs z) : EachC x bs z := fun base gm b cp fm cv V w hM k p hk hp =>
 callsIn_wide.1 (each_in 3 (by omega) x bs z hE base gm b cp fm cv V w hM k p hk hp)
end Go.Proofs.YtofbfafnpdaejaaGreatDoor
