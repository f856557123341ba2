/- Texts of the claim. -/
import Derived.Test.YtofbfafnpdaejaaGreatDoorJSimE
set_option linter.all false
set_option maxRecDepth 100000
set_option maxHeartbeats 8000000
namespace Go.Proofs.YtofbfafnpdaejaaGreatDoor
open Go.RowKit
theorem word_cut (s i : Nat) (hi : i < 4) : word (s % 2 ^ 256).testBit i = word s.testBit i := word_congr fun j hj => by
 rw [Nat.testBit_mod_two_pow, decide_eq_true (by omega : 64 * i + j < 256), Bool.true_and]
def Trees.cut : Trees → Trees
 | .nil => .nil
 | .cons k s ks lo hi r => .cons k (s % 2 ^ 256) ks.cut lo hi r.cut
def Nd.cut (x : Nd) : Nd := ⟨x.kind, x.set % 2 ^ 256, x.kids.cut, x.lo, x.hi⟩
theorem Trees.len_cut : ∀ F : Trees, F.cut.len = F.len
 | .nil => rfl
 | .cons k s ks lo hi r => by rw [Trees.cut, Trees.len, Trees.len, r.len_cut]
theorem Trees.size_cut : ∀ F : Trees, F.cut.size = F.size
 | .nil => rfl
 | .cons k s ks lo hi r => by rw [Trees.cut, Trees.size, Trees.size, ks.size_cut, r.size_cut]
theorem Nd.size_cut (x : Nd) : x.cut.size = x.size := by unfold Nd.size Nd.cut; rw [Trees.size_cut]
theorem ndV_cut (x : Nd) (B : Option Addr) (cap : Nat) : ndV x.cut B cap = ndV x B cap := by
 unfold ndV Nd.cut
 dsimp only
 rw [word_cut _ 0 (by decide), word_cut _ 1 (by decide), word_cut _ 2 (by decide), word_cut _ 3 (by decide), Trees.len_cut]
theorem TreesAt.cut {w : World} {P : Nat → Prop} : ∀ {F : Trees} {A : Option Addr}, TreesAt w P F A → TreesAt w P F.cut A
 | .nil, _, _ => trivial
 | .cons k s ks lo hi r, A, ⟨b, o, B, cap, hA, hb, hc, ⟨c0, c1, c2, c3, c4, c5, c6, c7⟩, h1, h2⟩ =>
  ⟨b, o, B, cap, hA, hb, by rw [Trees.len_cut]; exact hc, ⟨c0, by rw [word_cut _ 0 (by decide)]; exact c1, by rw [word_cut _ 1 (by decide)]; exact c2, by rw [word_cut _ 2 (by decide)]; exact c3, by rw [word_cut _ 3 (by decide)]; exact c4, by rw [Trees.len_cut]; exact c5, c6, c7⟩, h1.cut, h2.cut⟩
theorem Trees.fit_cut : ∀ F : Trees, FitF F.cut
 | .nil => fun y hy => by cases hy
 | .cons k s ks lo hi r => fun y hy => by
  simp only [Trees.cut, Trees.nodes, List.mem_cons, List.mem_append] at hy
  rcases hy with rfl | hy | hy
  ·exact Nat.mod_lt _ (by decide)
  ·exact ks.fit_cut y hy
  ·exact r.fit_cut y hy
theorem Nd.fit_cut (x : Nd) : FitT x.cut := fun y hy => by
 rcases List.mem_cons.1 hy with rfl | hy
 ·exact Nat.mod_lt _ (by decide)
 ·exact x.kids.fit_cut y hy
end Go.Proofs.YtofbfafnpdaejaaGreatDoor
