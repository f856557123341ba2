/-
  The deferred closure of parse.Lexemes: of a frame that panics, of one that returns.
-/
import Derived.Tactics2
import Derived.Defers
import Derived.Recover
import Derived.Test.YtgbpcigfbpghgaaQAlt
namespace Go.Proofs.Ytgbpcigfbpghgaa
open Go.RowKit
set_option linter.unusedSimpArgs false
set_option linter.unusedVariables false
set_option maxRecDepth 100000

@[go_sem] theorem run_assert_bad (k q : Int) (w : World) : (Instr.typeAssert (.iface 26 (.agg #[.int .i64 k, .int .i64 q])) 20 26 false).run Try.prog w = .ok (.agg #[.int .i64 k, .int .i64 q]) w := by kernel_rfl

theorem catch_idle (G H : Nat) (w : World) :
    CallsD Try.prog 75 #[.pointer (some ⟨G, 0, none⟩), .pointer (some ⟨H, 0, none⟩)] .returning w fun e u' w' => e = .returned (.tuple #[]) ∧ u' = .returning ∧ w' = w := by
  refine callsD_of_wpS Try.func75 rfl fun c₀ cs hu => ?_
  apply wpS_seq
  apply wpS_region
  simp [wpOpsS, go_sem, recoverD, hu, Try.ntmps75, Exit.thenS]
  refine wpS_of_wp ?_
  change Code.wp _ _ _ { tmps := #[.pointer (some ⟨G, 0, none⟩), .pointer (some ⟨H, 0, none⟩), .nilIface, .nilIface, undef, undef, undef, undef, undef], defers := [] } _
  go_wp2
  cases c₀
  simp_all [bodyPostS, results, Try.results75]

theorem catch_bad (G H : Nat) (k q : Int) (older : List PanicEntry) (w : World) (hG : Blk w G 37 #[.int .i64 0, .int .u64 0, .int .u64 0, .int .u64 0, .int .u64 0, .slice none 0 0, .int .i64 0, .int .i64 0]) (hH : Blk w H 26 #[.int .i64 0, .int .i64 0]) (hGH : G ≠ H) :
    CallsD Try.prog 75 #[.pointer (some ⟨G, 0, none⟩), .pointer (some ⟨H, 0, none⟩)] (.panicking ({ v := badV k q, recovered := false } :: older)) w fun e u' w' =>
      e = .returned (.tuple #[]) ∧ u' = .panicking ({ v := badV k q, recovered := true } :: older) ∧ Blk w' G 37 #[.int .i64 0, .int .u64 0, .int .u64 0, .int .u64 0, .int .u64 0, .slice none 0 0, .int .i64 0, .int .i64 0] ∧ Blk w' H 26 #[.int .i64 k, .int .i64 q] ∧ ∀ n, n ≤ G → n ≤ H → Below n w w' := by
  refine callsD_of_wpS Try.func75 rfl fun c₀ cs hu => ?_
  apply wpS_seq
  apply wpS_region
  unfold badV at hu ⊢
  simp [wpOpsS, go_sem, recoverD, hu, Try.ntmps75, Exit.thenS]
  refine wpS_of_wp ?_
  change Code.wp _ _ _ { tmps := #[.pointer (some ⟨G, 0, none⟩), .pointer (some ⟨H, 0, none⟩), .iface 26 (.agg #[.int .i64 k, .int .i64 q]), .iface 26 (.agg #[.int .i64 k, .int .i64 q]), undef, undef, undef, undef, undef], defers := [] } _
  have y0 : w.cell? ⟨G, 0, none⟩ = some (.int .i64 0) := hG.cell 0
  have y1 : w.cell? ⟨G, 1, none⟩ = some (.int .u64 0) := hG.cell 1
  have y2 : w.cell? ⟨G, 2, none⟩ = some (.int .u64 0) := hG.cell 2
  have y3 : w.cell? ⟨G, 3, none⟩ = some (.int .u64 0) := hG.cell 3
  have y4 : w.cell? ⟨G, 4, none⟩ = some (.int .u64 0) := hG.cell 4
  have y5 : w.cell? ⟨G, 5, none⟩ = some (.slice none 0 0) := hG.cell 5
  have y6 : w.cell? ⟨G, 6, none⟩ = some (.int .i64 0) := hG.cell 6
  have y7 : w.cell? ⟨G, 7, none⟩ = some (.int .i64 0) := hG.cell 7
  have z0 := hG.frozen 0
  have z1 := hG.frozen 1
  have z2 := hG.frozen 2
  have z3 := hG.frozen 3
  have z4 := hG.frozen 4
  have z5 := hG.frozen 5
  have z6 := hG.frozen 6
  have z7 := hG.frozen 7
  obtain ⟨b0, b1, f0, f1⟩ := hH.c2
  have HG := Lib.hid hG
  have HH := Lib.hid hH
  clear hG hH
  go_wp2
  go_region
  change bodyPostS Try.prog Try.f75 _ _ _ Exit.normal _ _ _
  refine ⟨rfl, _, rfl, _, results_none rfl _ _ _, rfl, rfl, ((HG.out.put8 _ _ _ _ _ _ _ _).far2 hGH _ _).drew, ((HH.out.past8 (fun e => hGH e.symm) _ _ _ _ _ _ _ _).set2).drew, fun n h1 h2 => (below_set2 (below_put8 (Below.refl n w) h1 _ _ _ _ _ _ _ _) h2 _ _).drew⟩

end Go.Proofs.Ytgbpcigfbpghgaa
