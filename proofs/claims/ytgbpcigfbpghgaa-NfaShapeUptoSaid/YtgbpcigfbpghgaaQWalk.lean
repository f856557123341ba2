/-
  tree.walk and tree.nodes: the iterator over the nodes of a tree that may be, each ahead of its kids.
-/
import Derived.RangeFuncNested
import Derived.RangeFuncBound
import Derived.RangeFuncCalls
import Derived.RangeFuncLeaves
import Derived.Shelf.Abstract
import Derived.Shelf.RegionOpen
import Derived.WalkKit
import Derived.OwnWalkIn
import Derived.TacticsInMore
import Derived.LoopNIn
import Derived.LoopIn
import Derived.Test.YtgbpcigfbpghgaaQAlone
namespace Go.Proofs.Ytgbpcigfbpghgaa
open Go.RowKit Go.Shelf
set_option linter.unusedSimpArgs false
set_option linter.unusedVariables false
set_option maxRecDepth 100000
attribute [local go_sem] Oper.semAt_some

/-! Where no depth is asked the figures are all one (turned from the worked proof of a recursive iterator). -/
theorem room_of_none {F : Fence} (hd : F.depth = none) (k : Nat) : F.room k := fun d h => by rw [hd] at h; cases h
theorem roundIn_any {F : Fence} (hd : F.depth = none) {m m' : Nat} {P : Program} {l : Nat} {f : FuncId} {tmps : Array Value} {assign body : Code} {w : World} {R : Ending → World → Prop}
    (h : RoundIn F m P l f tmps assign body w R) : RoundIn F m' P l f tmps assign body w R := ⟨h.1, fun c cs _ => h.2 c cs (room_of_none hd _)⟩
theorem yieldAt_any {F : Fence} (hd : F.depth = none) {m : Nat} (m' : Nat) {P : Program} {l : Nat} {args : Array Value} {W : World} {R : Ending → World → Prop} (h : YieldAt F m P l args W R) : YieldAt F m' P l args W R := by
  obtain ⟨fn, tmps, assign, body, hy, hR⟩ := h
  exact ⟨fn, tmps, assign, body, hy, roundIn_any hd hR⟩

/-- A node that may be, with the slice of its kids. -/
abbrev Item := { q : Nd × Option Addr × Nat // Alone q.1 }
def itemV (q : Item) : Array Value := #[ndV q.1.1 q.1.2.1 q.1.2.2]
/-- All cells but those of one block lie as they lay. -/
def Kc (Bn : Nat) (A B : World) : Prop := A.heap.size ≤ B.heap.size ∧ ∀ (p : Addr) (v : Value), p.block ≠ Bn → A.cell? p = some v → B.cell? p = some v
theorem Kc.refl (Bn : Nat) (A : World) : Kc Bn A A := ⟨Nat.le_refl _, fun _ _ _ h => h⟩
theorem Kc.trans {Bn : Nat} {A B C : World} (h : Kc Bn A B) (k : Kc Bn B C) : Kc Bn A C := ⟨Nat.le_trans h.1 k.1, fun p v hp hc => k.2 p v hp (h.2 p v hp hc)⟩
theorem Kc.below {Bn : Nat} {A B : World} (h : Below A.heap.size A B) : Kc Bn A B := ⟨h.size, fun p v _ hc => (h.cell (World.block_lt_of_cell? A _ hc)).trans hc⟩
theorem Kc.trees {Bn : Nat} {w w' : World} (hk : Kc Bn w w') {P : Nat → Prop} (hP : ∀ b, P b → b ≠ Bn) : ∀ {F : Trees} {A : Option Addr}, TreesAt w P F A → TreesAt w' P F A
  | .nil, _, _ => trivial
  | .cons k s ks lo hi r, A, ⟨b, o, B, cap, hA, hb, hc, ⟨n0, n1, n2, n3, n4, n5, n6, n7⟩, h1, h2⟩ =>
    ⟨b, o, B, cap, hA, hb, hc, ⟨hk.2 _ _ (hP b hb) n0, hk.2 _ _ (hP b hb) n1, hk.2 _ _ (hP b hb) n2, hk.2 _ _ (hP b hb) n3, hk.2 _ _ (hP b hb) n4, hk.2 _ _ (hP b hb) n5, hk.2 _ _ (hP b hb) n6, hk.2 _ _ (hP b hb) n7⟩, Kc.trees hk hP h1, Kc.trees hk hP h2⟩

theorem Sound.get : ∀ {F : Trees} {i : Nat} {z : Nd}, Sound F → F.list[i]? = some z → SoundN z
  | .nil, i, z, _, h => by simp [Trees.list] at h
  | .cons k s ks lo hi r, 0, z, hs, h => by
    simp [Trees.list] at h
    subst h
    exact ⟨hs.1, hs.2.1⟩
  | .cons k s ks lo hi r, i + 1, z, hs, h => Sound.get hs.2.2 (by simpa [Trees.list] using h)
/-- How many nodes the first k trees have. -/
def Trees.first : Trees → Nat → Nat
  | .nil, _ => 0
  | .cons _ _ _ _ _ _, 0 => 0
  | .cons _ _ ks _ _ r, k + 1 => 1 + ks.size + r.first k
theorem Trees.first_zero (F : Trees) : F.first 0 = 0 := by cases F <;> rfl
theorem Trees.first_succ : ∀ {F : Trees} {i : Nat} {z : Nd}, F.list[i]? = some z → F.first (i + 1) = F.first i + z.size
  | .nil, i, z, h => by simp [Trees.list] at h
  | .cons k s ks lo hi r, 0, z, h => by
    simp [Trees.list] at h
    subst h
    simp [Trees.first, Trees.first_zero, Nd.size]
  | .cons k s ks lo hi r, i + 1, z, h => by
    have := Trees.first_succ (F := r) (i := i) (by simpa [Trees.list] using h)
    simp only [Trees.first] at this ⊢
    omega
theorem Trees.first_le : ∀ (F : Trees) (i : Nat), F.first i ≤ F.size
  | .nil, i => Nat.le_refl _
  | .cons k s ks lo hi r, 0 => Nat.zero_le _
  | .cons k s ks lo hi r, i + 1 => by
    have := Trees.first_le r i
    simp [Trees.first, Trees.size]
    omega
theorem Trees.first_all : ∀ (F : Trees), F.first F.len = F.size
  | .nil => rfl
  | .cons k s ks lo hi r => by
    have := Trees.first_all r
    simp [Trees.first, Trees.size, Trees.len]
    omega

section
variable {l Bn N : Nat} {P : Nat → Prop} {J Jx : List Item → World → Prop}
def WalkC (l Bn N : Nat) (P : Nat → Prop) (J Jx : List Item → World → Prop) (n : Nat) : Prop := ∀ (m : Nat) (x : Nd) (B : Option Addr) (cap : Nat) (pre : List Item) (W : World), x.size ≤ n → SoundN x → Bn < W.heap.size → TreesAt W P x.kids B → J pre W → pre.length + x.size ≤ N →
  CallsIn Fence.wide m Try.prog 79 #[ndV x B cap, .func (.yield l) #[] #[]] W fun e W' =>
    (e = .returned (.bool true) ∧ (∃ ys : List Item, ys.length = pre.length + x.size ∧ J ys W') ∧ Kc Bn W W') ∨ (e = .returned (.bool false) ∧ ∃ q, Jx q W')
set_option maxHeartbeats 2000000 in
theorem walk_step (hP : ∀ b, P b → b ≠ Bn) (hN : N ≤ 4096) (hJ : ∀ s W o, J s W → J s (World.alloc W o))
    (hY : ∀ m pre (x : Item) W, J pre W → pre.length < N → YieldAt Fence.wide m Try.prog l (itemV x) W fun e W' =>
      (e = .returned (.bool true) ∧ J (pre ++ [x]) W' ∧ Kc Bn W W') ∨ (e = .returned (.bool false) ∧ Jx (pre ++ [x]) W'))
    {n : Nat} (ih : WalkC l Bn N P J Jx n) : WalkC l Bn N P J Jx (n + 1) := by
  intro m x B cap pre W hsz hs hBn ht h0 hlen
  have hx1 : 1 ≤ x.size := by unfold Nd.size; omega
  have hxs : x.size = 1 + x.kids.size := rfl
  have hk0 := Trees.len_size x.kids
  have hlk : x.kids.len ≤ 4096 := by omega
  have HA := Lib.hid (show Kc Bn W (W.alloc (.cells (ndA x B cap) 37)) from Kc.below ((Below.refl _ _).alloc (Nat.le_refl _) _))
  have HK := Lib.hid (Blk.new W 37 (ndA x B cap))
  obtain ⟨fn, tmps, assign, body, hy, hR⟩ := hY (m - 1) pre ⟨(x, B, cap), hs.1⟩ (W.alloc (.cells (ndA x B cap) 37)) (hJ _ _ _ h0) (by omega)
  have HR := Lib.hid hR
  have HT := Lib.hid ht
  have hne : W.heap.size ≠ Bn := by omega
  clear hR ht
  unfold itemV at hy
  dsimp only at hy
  unfold ndV ndA at hy
  unfold ndV
  refine callsIn_of_wp Try.func79 rfl trivial ?_ rfl
  simp only [Try.ntmps79, List.size_toArray, List.length_cons, List.length_nil, Nat.reduceAdd, Nat.reduceSub, Array.replicate_succ, Array.replicate_zero, List.push_toArray, List.append_toArray, List.nil_append, List.cons_append]
  have hdd : ∀ k : Nat, (Fence.wide.depth.isSome = true → 1 ≤ k) := fun k h => by cases h
  gi_wp2
  refine ⟨hdd _, HR.out.mono ?_⟩
  rintro e W3 (⟨rfl, hJ3, hk3⟩ | ⟨rfl, hJx3⟩)
  · have hK3 := HA.out.trans hk3
    have c5 : W3.cell? ⟨W.heap.size, 5, none⟩ = some (.slice B x.kids.len cap) := hk3.2 ⟨W.heap.size, 5, none⟩ _ hne (HK.out.cell 5)
    have HJ3 := Lib.hid hJ3
    have HK3 := Lib.hid hK3
    clear hJ3 hk3 hK3 HR hy HA HK
    gi_wp2
    gi_loopw [14] (fun v wr => ∃ k : Nat, v = .int .i64 (k : Int) ∧ k ≤ x.kids.len ∧ Hid ((∃ ys : List Item, ys.length = pre.length + 1 + x.kids.first k ∧ J ys wr) ∧ Kc Bn W wr)) (fun v _ => x.kids.len - (intOf v).toNat)
    case atStart => exact ⟨0, rfl, Nat.zero_le _, Lib.hid ⟨⟨_, by rw [Trees.first_zero]; simp, HJ3.out⟩, HK3.out⟩⟩
    case round =>
      obtain ⟨k, rfl, hk, HI⟩ := hrel
      clear HJ3 HK3
      by_cases hlt : k < x.kids.len
      · obtain ⟨z, hz⟩ : ∃ z, x.kids.list[k]? = some z := ⟨_, List.getElem?_eq_getElem (by rw [Trees.len_list]; exact hlt)⟩
        have hzs := Trees.size_get x.kids k z hz
        obtain ⟨⟨ys, hys, hJy⟩, hKy⟩ := HI.out
        obtain ⟨b, o, C, capc, rfl, _, _, ⟨c0, c1, c2, c3, c4, c5, c6, c7⟩, hkz⟩ := (Kc.trees hKy hP HT.out).get hz
        have hf1 := Trees.first_succ hz
        have hf2 := Trees.first_le x.kids (k + 1)
        have hdl : (k : Int) < (x.kids.len : Int) := by omega
        have hkA : Kc Bn wr (wr.alloc (.cells (ndA z C capc) 37)) := Kc.below ((Below.refl _ _).alloc (Nat.le_refl _) _)
        have HC := Lib.hid (ih (m - 1) z C capc ys (wr.alloc (.cells (ndA z C capc) 37)) (by omega) (hs.2.get hz) (by have := hKy.1; simp; omega) (Kc.trees hkA hP hkz) (hJ _ _ _ hJy) (by omega))
        have HKy := Lib.hid (hKy.trans hkA)
        have HF := Lib.hid (show ys.length + z.size = pre.length + 1 + x.kids.first (k + 1) by omega)
        clear hz hzs hys hJy hKy hkz hf1 hf2 hkA HI
        unfold ndV at HC
        gi_wp2
        refine ⟨trivial, hdd _, HC.out.mono ?_⟩
        clear HC
        rintro e W4 (⟨rfl, ⟨ys4, hl4, hJ4⟩, hk4⟩ | ⟨rfl, q, hq⟩)
        · have HI4 := Lib.hid (show (∃ ys : List Item, ys.length = pre.length + 1 + x.kids.first (k + 1) ∧ J ys W4) ∧ Kc Bn W W4 from ⟨⟨ys4, hl4.trans HF.out, hJ4⟩, HKy.out.trans hk4⟩)
          clear hl4 hJ4 hk4 HF HKy c0 c1 c2 c3 c4 c5 c6 c7
          dsimp only
          gi_wp2
          go_roundw
          case rel => exact ⟨k + 1, by go_num, by omega, HI4⟩
          case measure => simp [intOf]; omega
        · have HQ := Lib.hid hq
          clear hq HF HKy c0 c1 c2 c3 c4 c5 c6 c7
          dsimp only
          gi_wp2
          go_ret
          exact .inr ⟨rfl, q, HQ.out⟩
      · have hdl : ¬ (k : Int) < (x.kids.len : Int) := by omega
        obtain rfl : k = x.kids.len := by omega
        obtain ⟨⟨ys, hys, hJy⟩, hKy⟩ := HI.out
        have HY := Lib.hid (show (∃ ys : List Item, ys.length = pre.length + (1 + x.kids.size) ∧ J ys wr) ∧ Kc Bn W wr from ⟨⟨ys, by rw [hys, Trees.first_all]; omega, hJy⟩, hKy⟩)
        clear hys hJy hKy HI
        gi_wp2
        go_ret
        exact .inl ⟨rfl, HY.out.1, HY.out.2⟩
  · gi_wp2
    go_ret
    exact .inr ⟨rfl, _, hJx3⟩
theorem walk_all (hP : ∀ b, P b → b ≠ Bn) (hN : N ≤ 4096) (hJ : ∀ s W o, J s W → J s (World.alloc W o))
    (hY : ∀ m pre (x : Item) W, J pre W → pre.length < N → YieldAt Fence.wide m Try.prog l (itemV x) W fun e W' =>
      (e = .returned (.bool true) ∧ J (pre ++ [x]) W' ∧ Kc Bn W W') ∨ (e = .returned (.bool false) ∧ Jx (pre ++ [x]) W')) : ∀ n, WalkC l Bn N P J Jx n
  | 0 => fun m x B cap pre W h => by unfold Nd.size at h; omega
  | n + 1 => walk_step hP hN hJ hY (walk_all hP hN hJ hY n)
end

set_option maxHeartbeats 1000000 in
/-- tree.nodes: the tree is boxed; the function value holds the box. -/
theorem nodes_go (x : Nd) (B : Option Addr) (cap : Nat) (w : World) :
    Calls Try.prog 61 #[ndV x B cap] w fun e w' => e = .returned (.func (.func 78) #[] #[.pointer (some ⟨w.heap.size, 0, none⟩)]) ∧ w' = w.alloc (.cells (ndA x B cap) 37) := by
  unfold ndV
  go_enter Try.func61, Try.ntmps61
  go_wp2
  go_light
  go_ret
  exact ⟨rfl, rfl⟩
set_option maxHeartbeats 1000000 in
theorem nodes1_in (n : Nat) (x : Nd) (B : Option Addr) (cap : Nat) (l Bs Bn : Nat) (P : Nat → Prop) (hP : ∀ b, P b → b ≠ Bn) (hsz : x.size ≤ 4096) (hs : SoundN x) (J Jx : List Item → World → Prop) (hJ : ∀ s W o, J s W → J s (World.alloc W o))
    (hY : ∀ pre (x : Item) W, J pre W → pre.length < 4096 → YieldAt Fence.wide (n - 1) Try.prog l (itemV x) W fun e W' =>
      (e = .returned (.bool true) ∧ J (pre ++ [x]) W' ∧ Kc Bn W W') ∨ (e = .returned (.bool false) ∧ Jx (pre ++ [x]) W'))
    (W : World) (hb : Blk W Bs 37 (ndA x B cap)) (hBn : Bn < W.heap.size) (ht : TreesAt W P x.kids B) (h0 : J [] W) :
    CallsIn Fence.wide n Try.prog 78 #[.func (.yield l) #[] #[], .pointer (some ⟨Bs, 0, none⟩)] W fun e W' => (∃ v, e = .returned v) ∧
      ((∃ ys : List Item, True ∧ J ys W') ∨ (∃ pre : List Item, True ∧ Jx pre W')) := by
  have HC := Lib.hid (walk_all hP (Nat.le_refl _) hJ (fun m pre x W hj hl => yieldAt_any rfl m (hY pre x W hj hl)) x.size (n - 1) x B cap [] W (Nat.le_refl _) hs hBn ht h0 (by simpa using hsz))
  have c0 : W.cell? ⟨Bs, 0, none⟩ = some (.int .i64 x.kind) := hb.cell 0
  have c1 : W.cell? ⟨Bs, 1, none⟩ = some (.int .u64 ((word x.set.testBit 0 : Nat) : Int)) := hb.cell 1
  have c2 : W.cell? ⟨Bs, 2, none⟩ = some (.int .u64 ((word x.set.testBit 1 : Nat) : Int)) := hb.cell 2
  have c3 : W.cell? ⟨Bs, 3, none⟩ = some (.int .u64 ((word x.set.testBit 2 : Nat) : Int)) := hb.cell 3
  have c4 : W.cell? ⟨Bs, 4, none⟩ = some (.int .u64 ((word x.set.testBit 3 : Nat) : Int)) := hb.cell 4
  have c5 : W.cell? ⟨Bs, 5, none⟩ = some (.slice B x.kids.len cap) := hb.cell 5
  have c6 : W.cell? ⟨Bs, 6, none⟩ = some (.int .i64 x.lo) := hb.cell 6
  have c7 : W.cell? ⟨Bs, 7, none⟩ = some (.int .i64 x.hi) := hb.cell 7
  have hdd : ∀ k : Nat, (Fence.wide.depth.isSome = true → 1 ≤ k) := fun k h => by cases h
  clear hb ht h0 hY hs hsz
  refine callsIn_of_wp Try.func78 rfl trivial ?_ rfl
  simp only [Try.ntmps78, List.size_toArray, List.length_cons, List.length_nil, Nat.reduceAdd, Nat.reduceSub, Array.replicate_succ, Array.replicate_zero, List.push_toArray, List.append_toArray, List.nil_append, List.cons_append]
  gi_wp2
  refine ⟨trivial, hdd _, HC.out.mono ?_⟩
  rintro e W1 (⟨rfl, ⟨ys, _, hJ1⟩, _⟩ | ⟨rfl, q, hq⟩)
  · dsimp only
    gi_wp2
    go_end0
    exact ⟨⟨_, rfl⟩, .inl ⟨ys, trivial, hJ1⟩⟩
  · dsimp only
    gi_wp2
    go_end0
    exact ⟨⟨_, rfl⟩, .inr ⟨q, trivial, hq⟩⟩
/-- What tree.nodes hands back hands out nodes that may be, 4096 at most. -/
theorem nodes_stops (n : Nat) (x : Nd) (B : Option Addr) (cap : Nat) (Bs Bn : Nat) (P : Nat → Prop) (w : World) (hP : ∀ b, P b → b ≠ Bn) (hsz : x.size ≤ 4096) (hs : SoundN x) (hb : Blk w Bs 37 (ndA x B cap)) (hBn : Bn < w.heap.size) (ht : TreesAt w P x.kids B) :
    SeqStopsK Fence.wide n Try.prog 78 #[.pointer (some ⟨Bs, 0, none⟩)] itemV (Kc Bn) (fun _ => True) (fun _ => True) 4096 w := fun l J Jx W hW hJ _ hY h0 =>
  nodes1_in n x B cap l Bs Bn P hP hsz hs J Jx (fun s W o h => hJ s W _ none h (World.grownBy_alloc W o none) (fun r e => by cases e)) hY W (hb.below hW hb.lt) (by have := hW.size; omega) (ht.below hW) h0

end Go.Proofs.Ytgbpcigfbpghgaa
