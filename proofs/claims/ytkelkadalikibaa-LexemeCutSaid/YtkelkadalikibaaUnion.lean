/-
  The contract of sets.Union, for any slice of sets.
-/
import Derived.Test.YtkelkadalikibaaSets
import Derived.Lib.Hide
namespace Go.Proofs.Ytkelkadalikibaa
open Go.RowKit
set_option linter.unusedSimpArgs false
set_option linter.unusedVariables false

/-- What is in one of the first k sets. -/
def anyOf (ps : List (Nat → Bool)) (k : Nat) (c : Nat) : Bool := (ps.take k).any (fun p => p c)
theorem anyOf_zero (ps : List (Nat → Bool)) : anyOf ps 0 = fun _ => false := by funext c; simp [anyOf]
theorem anyOf_succ {ps : List (Nat → Bool)} {k : Nat} {p : Nat → Bool} (h : ps[k]? = some p) : anyOf ps (k + 1) = fun c => anyOf ps k c || p c := by
  funext c
  unfold anyOf
  rw [List.take_add_one, h]
  simp

set_option maxRecDepth 100000 in
set_option maxHeartbeats 800000 in
theorem union_any (A : Option Addr) (ps : List (Nat → Bool)) (cap : Nat) (w : World) (hA : SetsAt w w.heap.size A ps) (hn : ps.length ≤ 9223372036854775807) :
    Calls Try.prog 95 #[.slice A ps.length cap] w fun e w' => e = .returned (.agg #[.int .u64 ((word (anyOf ps ps.length) 0 : Nat) : Int), .int .u64 ((word (anyOf ps ps.length) 1 : Nat) : Int), .int .u64 ((word (anyOf ps ps.length) 2 : Nat) : Int), .int .u64 ((word (anyOf ps ps.length) 3 : Nat) : Int)]) ∧ Below w.heap.size w w' := by
  go_enter Try.func95, Try.ntmps95
  go_wp2
  go_loopw [10] (fun i wr => ∃ (k : Nat), i = .int .i64 k ∧ k ≤ ps.length ∧ Blk wr (w.heap.size + 1) 35 #[.int .u64 ((word (anyOf ps k) 0 : Nat) : Int), .int .u64 ((word (anyOf ps k) 1 : Nat) : Int), .int .u64 ((word (anyOf ps k) 2 : Nat) : Int), .int .u64 ((word (anyOf ps k) 3 : Nat) : Int)] ∧ Blk wr w.heap.size 35 #[.int .u64 0, .int .u64 0, .int .u64 0, .int .u64 0] ∧ Below w.heap.size w wr) (fun i _ => ps.length - (intOf i).toNat)
  case atStart =>
    refine ⟨0, rfl, Nat.zero_le _, ?_, ?_, ?_⟩
    · rw [anyOf_zero]; simp only [word_none]; exact Blk.new_at (by simp)
    · exact (Blk.new _ _ _).alloc _
    · exact ((Below.refl _ _).alloc (Nat.le_refl _) _).alloc (by simp) _
  case round =>
    obtain ⟨k, rfl, hk, hs, hr, hb⟩ := hrel
    by_cases hlt : k < ps.length
    · obtain ⟨b, o, rfl, hbb, hc⟩ := hA (by omega)
      have hz := hs.lt
      have hp := List.getElem?_eq_getElem hlt
      generalize ps[k] = p at hp
      obtain ⟨hp0, hp1, hp2, hp3⟩ := (hc k p hp).below hb hbb
      obtain ⟨s0, s1, s2, s3, f0, f1, f2, f3⟩ := hs.c4
      have Hp : Hid (ps[k]? = some p) := hp
      have Hs := Lib.hid hs
      have Hr := Lib.hid hr
      clear hp hc hs hr
      go_wp2
      refine wp_loop_rounds 5 ?_
      rw [rounds_succ]
      go_wp2
      rw [rounds_succ]
      go_wp2
      rw [rounds_succ]
      go_wp2
      rw [rounds_succ]
      go_wp2
      rw [rounds_succ]
      go_wp2
      go_light
      go_roundw
      case rel =>
        refine ⟨k + 1, by go_num, by omega, ?_, ?_, ?_⟩
        · rw [anyOf_succ Hp.out]
          simp only [u64_or_word]
          exact Hs.out.set4.alloc _
        · exact ((((Hr.out.far (by simp) _).far (by simp) _).far (by simp) _).far (by simp) _).alloc _
        · repeat (first | exact hb | refine Below.setCell ?_ (by simp) _ | refine Below.alloc ?_ (by simp [World.setCell]; omega) _)
      case measure => simp [intOf]; omega
    · have hz := hs.lt
      have he : ps.length = k := by omega
      obtain ⟨s0, s1, s2, s3, f0, f1, f2, f3⟩ := hs.c4
      obtain ⟨r0, r1, r2, r3, g0, g1, g2, g3⟩ := hr.c4
      have Hr := Lib.hid hr
      have He := Lib.hid he
      clear hr hs he
      go_wp2
      go_light
      refine bodyPost_ret (v := .agg #[.int .u64 ((word (anyOf ps k) 0 : Nat) : Int), .int .u64 ((word (anyOf ps k) 1 : Nat) : Int), .int .u64 ((word (anyOf ps k) 2 : Nat) : Int), .int .u64 ((word (anyOf ps k) 3 : Nat) : Int)]) (ret_set Try.results95 rfl Hr.out.set4) rfl ⟨by rw [He.out], ?_⟩
      repeat (first | exact hb | refine Below.setCell ?_ (by simp) _ | refine Below.alloc ?_ (by simp; omega) _)

end Go.Proofs.Ytkelkadalikibaa
