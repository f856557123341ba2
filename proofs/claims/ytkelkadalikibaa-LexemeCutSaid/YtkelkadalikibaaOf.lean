/-
  The contract of sets.Of, for any slice of bytes.
-/
import Derived.Test.YtkelkadalikibaaRef02
import Derived.Test.YtkelkadalikibaaLeaf
namespace Go.Proofs.Ytkelkadalikibaa
open Go.RowKit
set_option linter.unusedSimpArgs false
set_option linter.unusedVariables false
set_option maxRecDepth 100000

/-- The bytes among the first k. -/
def among (bs : List Nat) (k c : Nat) : Bool := (bs.take k).any (fun x => x == c)
theorem among_zero (bs : List Nat) : among bs 0 = fun _ => false := by funext c; simp [among]
theorem among_succ {bs : List Nat} {k : Nat} (h : k < bs.length) : among bs (k + 1) = withB (among bs k) (byteAt bs k) := by
  funext c
  have e : bs[k]? = some (byteAt bs k) := by unfold byteAt; rw [List.getD_eq_getElem?_getD, List.getElem?_eq_getElem h]; rfl
  unfold among withB
  rw [List.take_add_one, e]
  simp [Bool.beq_comm, eq_comm]
theorem among_one (c : Nat) (k : Nat) : among [c] 1 k = (k == c) := by simp [among, eq_comm, Bool.beq_comm]

set_option maxHeartbeats 2000000 in
theorem of_any (A : Option Addr) (bs : List Nat) (cap : Nat) (w : World) (hA : BytesAt w w.heap.size A bs) :
    Calls Try.prog 47 #[.slice A bs.length cap] w fun e w' => e = .returned (.agg #[.int .u64 ((word (among bs bs.length) 0 : Nat) : Int), .int .u64 ((word (among bs bs.length) 1 : Nat) : Int), .int .u64 ((word (among bs bs.length) 2 : Nat) : Int), .int .u64 ((word (among bs bs.length) 3 : Nat) : Int)]) ∧ Below w.heap.size w w' := by
  have hn : bs.length ≤ 9223372036854775807 := by have := hA.2.1; omega
  have HA := Lib.hid hA
  clear hA
  go_enter Try.func47, Try.ntmps47
  go_wp2
  go_loopw [8] (fun i wr => ∃ (k : Nat), i = .int .i64 k ∧ k ≤ bs.length ∧ Blk wr (w.heap.size + 1) 35 #[.int .u64 ((word (among bs k) 0 : Nat) : Int), .int .u64 ((word (among bs k) 1 : Nat) : Int), .int .u64 ((word (among bs k) 2 : Nat) : Int), .int .u64 ((word (among bs k) 3 : Nat) : Int)] ∧ Blk wr w.heap.size 35 #[.int .u64 0, .int .u64 0, .int .u64 0, .int .u64 0] ∧ Below w.heap.size w wr) (fun i _ => bs.length - (intOf i).toNat)
  case atStart =>
    refine ⟨0, rfl, Nat.zero_le _, ?_, ?_, ?_⟩
    · rw [among_zero]; simp only [word_none]; exact Blk.new_at (by simp)
    · exact (Blk.new _ _ _).alloc _
    · exact ((Below.refl _ _).alloc (Nat.le_refl _) _).alloc (by simp) _
  case round =>
    obtain ⟨k, rfl, hk, hs, hr, hb⟩ := hrel
    by_cases hlt : k < bs.length
    · obtain ⟨b, o, rfl, hbb, hc⟩ := HA.out.2.2 (by omega)
      have hz := hs.lt
      have hcell : wr.cell? ⟨b, o + k, none⟩ = some (.int .u8 ((byteAt bs k : Nat) : Int)) := (hb.cell (p := ⟨b, _, none⟩) hbb).trans (hc k hlt)
      obtain ⟨s0, s1, s2, s3, f0, f1, f2, f3⟩ := hs.c4
      have Hm := Lib.hid (among_succ hlt)
      have hlo := byteAt_lt HA.out.1 k
      have Hs := Lib.hid hs
      have Hr := Lib.hid hr
      clear hc hs hr
      generalize byteAt bs k = c at *
      obtain hq | hq | hq | hq : (c : Int) / 64 = 0 ∨ (c : Int) / 64 = 1 ∨ (c : Int) / 64 = 2 ∨ (c : Int) / 64 = 3 := by omega
      · go_wp2
        go_light
        go_roundw
        case rel =>
          refine ⟨k + 1, by go_num, by omega, ?_, Hr.out.far (p := ⟨w.heap.size + 1, 0, none⟩) (by simp) _, hb.setCell (p := ⟨w.heap.size + 1, 0, none⟩) (by simp) _⟩
          have h := Hs.out.set_ 0 (.int .u64 ((word (withB (among bs k) c) 0 : Nat) : Int))
          have e := with_or (among bs k) (c : Int) 0 (by omega) hq
          rw [Int.toNat_natCast, show ((c : Int) % 64).toNat = c % 64 by omega] at e
          rw [Hm.out, e, show word (withB (among bs k) c) 1 = word (among bs k) 1 from with_other (among bs k) (c : Int) 0 1 (by omega) hq (by decide), show word (withB (among bs k) c) 2 = word (among bs k) 2 from with_other (among bs k) (c : Int) 0 2 (by omega) hq (by decide), show word (withB (among bs k) c) 3 = word (among bs k) 3 from with_other (among bs k) (c : Int) 0 3 (by omega) hq (by decide)]
          exact h
        case measure => simp [intOf]; omega
      · go_wp2
        go_light
        go_roundw
        case rel =>
          refine ⟨k + 1, by go_num, by omega, ?_, Hr.out.far (p := ⟨w.heap.size + 1, 1, none⟩) (by simp) _, hb.setCell (p := ⟨w.heap.size + 1, 1, none⟩) (by simp) _⟩
          have h := Hs.out.set_ 1 (.int .u64 ((word (withB (among bs k) c) 1 : Nat) : Int))
          have e := with_or (among bs k) (c : Int) 1 (by omega) hq
          rw [Int.toNat_natCast, show ((c : Int) % 64).toNat = c % 64 by omega] at e
          rw [Hm.out, e, show word (withB (among bs k) c) 0 = word (among bs k) 0 from with_other (among bs k) (c : Int) 1 0 (by omega) hq (by decide), show word (withB (among bs k) c) 2 = word (among bs k) 2 from with_other (among bs k) (c : Int) 1 2 (by omega) hq (by decide), show word (withB (among bs k) c) 3 = word (among bs k) 3 from with_other (among bs k) (c : Int) 1 3 (by omega) hq (by decide)]
          exact h
        case measure => simp [intOf]; omega
      · go_wp2
        go_light
        go_roundw
        case rel =>
          refine ⟨k + 1, by go_num, by omega, ?_, Hr.out.far (p := ⟨w.heap.size + 1, 2, none⟩) (by simp) _, hb.setCell (p := ⟨w.heap.size + 1, 2, none⟩) (by simp) _⟩
          have h := Hs.out.set_ 2 (.int .u64 ((word (withB (among bs k) c) 2 : Nat) : Int))
          have e := with_or (among bs k) (c : Int) 2 (by omega) hq
          rw [Int.toNat_natCast, show ((c : Int) % 64).toNat = c % 64 by omega] at e
          rw [Hm.out, e, show word (withB (among bs k) c) 0 = word (among bs k) 0 from with_other (among bs k) (c : Int) 2 0 (by omega) hq (by decide), show word (withB (among bs k) c) 1 = word (among bs k) 1 from with_other (among bs k) (c : Int) 2 1 (by omega) hq (by decide), show word (withB (among bs k) c) 3 = word (among bs k) 3 from with_other (among bs k) (c : Int) 2 3 (by omega) hq (by decide)]
          exact h
        case measure => simp [intOf]; omega
      · go_wp2
        go_light
        go_roundw
        case rel =>
          refine ⟨k + 1, by go_num, by omega, ?_, Hr.out.far (p := ⟨w.heap.size + 1, 3, none⟩) (by simp) _, hb.setCell (p := ⟨w.heap.size + 1, 3, none⟩) (by simp) _⟩
          have h := Hs.out.set_ 3 (.int .u64 ((word (withB (among bs k) c) 3 : Nat) : Int))
          have e := with_or (among bs k) (c : Int) 3 (by omega) hq
          rw [Int.toNat_natCast, show ((c : Int) % 64).toNat = c % 64 by omega] at e
          rw [Hm.out, e, show word (withB (among bs k) c) 0 = word (among bs k) 0 from with_other (among bs k) (c : Int) 3 0 (by omega) hq (by decide), show word (withB (among bs k) c) 1 = word (among bs k) 1 from with_other (among bs k) (c : Int) 3 1 (by omega) hq (by decide), show word (withB (among bs k) c) 2 = word (among bs k) 2 from with_other (among bs k) (c : Int) 3 2 (by omega) hq (by decide)]
          exact h
        case measure => simp [intOf]; omega
    · have hz := hs.lt
      have he : bs.length = k := by omega
      obtain ⟨s0, s1, s2, s3, f0, f1, f2, f3⟩ := hs.c4
      obtain ⟨r0, r1, r2, r3, g0, g1, g2, g3⟩ := hr.c4
      have Hr := Lib.hid hr
      have He := Lib.hid he
      clear hr hs he
      go_wp2
      go_light
      refine bodyPost_ret (v := .agg #[.int .u64 ((word (among bs k) 0 : Nat) : Int), .int .u64 ((word (among bs k) 1 : Nat) : Int), .int .u64 ((word (among bs k) 2 : Nat) : Int), .int .u64 ((word (among bs k) 3 : Nat) : Int)]) (ret_set Try.results47 rfl Hr.out.set4) rfl ⟨by rw [He.out], ?_⟩
      repeat (first | exact hb | refine Below.setCell ?_ (by simp) _ | refine Below.alloc ?_ (by simp; omega) _)

/-- A new block of bytes. -/
theorem bytes_new (w : World) (n : Nat) (bs : List Nat) (cs : Array Value) (fr : Nat × Nat) (hn : n = w.heap.size) (hcs : cs = (bs.map (fun c : Nat => Value.int .u8 (c : Int))).toArray) (h : ∀ x ∈ bs, x < 256) (hl : bs.length ≤ 140737488355328) :
    BytesAt (w.alloc (.cells cs 5 fr)) (w.alloc (.cells cs 5 fr)).heap.size (some ⟨n, 0, none⟩) bs := by
  subst hn
  exact ⟨h, hl, fun _ => ⟨w.heap.size, 0, rfl, by simp, fun i hi => by
    rw [Nat.zero_add, cell_of_row _ w.heap.size i cs 5 fr (heap_alloc_new w _), hcs]
    unfold byteAt
    simp [hi]⟩⟩

theorem of_one (c : Nat) (hc : c < 256) (w : World) (n : Nat) (hn : n = w.heap.size) :
    Calls Try.prog 47 #[.slice (some ⟨n, 0, none⟩) 1 1] (w.alloc (.cells #[.int .u8 (c : Int)] 5)).drew fun e w' => e = .returned (.agg #[.int .u64 ((word (among [c] 1) 0 : Nat) : Int), .int .u64 ((word (among [c] 1) 1 : Nat) : Int), .int .u64 ((word (among [c] 1) 2 : Nat) : Int), .int .u64 ((word (among [c] 1) 3 : Nat) : Int)]) ∧ Below (w.alloc (.cells #[.int .u8 (c : Int)] 5)).drew.heap.size (w.alloc (.cells #[.int .u8 (c : Int)] 5)).drew w' :=
  of_any _ [c] 1 _ ((bytes_new w n [c] _ _ hn rfl (by simp; omega) (by simp)).drew)

end Go.Proofs.Ytkelkadalikibaa
