/-
  The reference's Bytes: the members of a set in order, in a slice of its own.
-/
import Derived.Maps.AppendAt
import Derived.OwnWalk
import Derived.Lib.Hide
import Derived.Test.YtkelkadalikibaaDoorRef02
import Derived.Test.YtkelkadalikibaaDoorElems
namespace Go.Proofs.YtkelkadalikibaaDoor
open Go.RowKit
set_option linter.unusedSimpArgs false
set_option linter.unusedVariables false
set_option maxRecDepth 100000

def byteCells (l : List Nat) : List Value := l.map fun c : Nat => .int .u8 (c : Int)
theorem info5 : (Tryd.prog.info? 5).map (fun i => (i.zero, i.size, i.bytes)) = some (some (.int .u8 0), 1, 1) := by kernel_rfl

theorem blk_not_row {W : World} {B : Nat} {t e : TypeId} {cs : Array Value} (h : Blk W B t cs) (hte : t ≠ e) {base size k : Nat} {v : Value} {xs : List Value} (hr : W.ownsRow base e size v k xs) : some B ≠ v.ownBlock := by
  rcases hr.2 with ⟨rfl, _⟩ | ⟨g, cap, cur, rfl, _, hgb, _⟩
  · simp [Value.ownBlock]
  · intro e'
    obtain rfl : B = g := by simpa [Value.ownBlock] using e'
    have := (show W.heap[B]? = _ from h).symm.trans hgb
    simp at this
    exact hte this.2
theorem ownsRow_below {W W' : World} {base size k n₀ : Nat} {e : TypeId} {v : Value} {xs : List Value} (hr : W.ownsRow base e size v k xs) (hb : Below n₀ W W') (hk : ∀ k, v.ownBlock = some k → k < n₀) : W'.ownsRow base e size v k xs := by
  refine ⟨hr.1, ?_⟩
  rcases hr.2 with h | ⟨g, cap, cur, rfl, h1, h2, h3⟩
  · exact .inl h
  · exact .inr ⟨g, cap, cur, rfl, h1, (hb.block g (hk g rfl)).trans h2, h3⟩

set_option maxHeartbeats 1000000 in
theorem rbytes_go (p : Nat → Bool) (w : World) :
    Calls Tryd.prog 40 #[.agg #[.int .u64 ((word (p) 0 : Nat) : Int), .int .u64 ((word (p) 1 : Nat) : Int), .int .u64 ((word (p) 2 : Nat) : Int), .int .u64 ((word (p) 3 : Nat) : Int)]] w fun e W' => ∃ v, e = .returned v ∧ W'.ownsRow w.heap.size 5 1 v (elems p 256).length (byteCells (elems p 256)) ∧ Below w.heap.size w W' := by
  obtain ⟨i0, hi, hz0, hz1, hz2⟩ := info_parts info5
  go_enter Tryd.func40, Tryd.ntmps40
  go_wp2
  go_loopw [3, 4] (fun v3 v4 wr => ∃ c : Nat, v4 = .int .i64 (c : Int) ∧ c ≤ 256 ∧ wr.ownsRow w.heap.size 5 1 v3 (elems p c).length (byteCells (elems p c)) ∧ Blk wr w.heap.size 25 #[.int .u64 ((word (p) 0 : Nat) : Int), .int .u64 ((word (p) 1 : Nat) : Int), .int .u64 ((word (p) 2 : Nat) : Int), .int .u64 ((word (p) 3 : Nat) : Int)] ∧ Below w.heap.size w wr) (fun _ v4 _ => 256 - (intOf v4).toNat)
  case atStart =>
    refine ⟨0, rfl, by omega, ?_, (Blk.new _ _ _).alloc _, ((Below.refl _ _).alloc (Nat.le_refl _) _).alloc (by simp) _⟩
    have h := World.ownsRow_made (base := w.heap.size) (size := 1) (e := 5) (w.alloc (.cells #[.int .u64 ((word (p) 0 : Nat) : Int), .int .u64 ((word (p) 1 : Nat) : Int), .int .u64 ((word (p) 2 : Nat) : Int), .int .u64 ((word (p) 3 : Nat) : Int)] 25)) #[] 0 (by simp) (by decide) rfl
    rw [World.size_alloc] at h
    exact h
  case round =>
    obtain ⟨c, rfl, hc, hrow, hs, hb⟩ := hrel
    by_cases hlt : c < 256
    · obtain ⟨s0, s1, s2, s3, f0, f1, f2, f3⟩ := hs.c4
      have hnb := blk_not_row hs (by decide) hrow
      have hown := hrow.lt
      have hlen := elems_len p c
      have hel := elems_succ p c
      have hb1m : (elems p c).length + 1 ≤ maxLen := Nat.le_trans (by omega) (show 1000 ≤ maxLen by decide)
      have hb2m : ((elems p c).length + 1) * 1 ≤ 140737488355328 := by omega
      cases hx : p c
      · rw [hx] at hel
        have hx' : p (c : Int).toNat = false := by simpa using hx
        have Hs := Lib.hid hs
        have Hel := Lib.hid hel
        have Hown := Lib.hid hown
        have Hrow := Lib.hid hrow
        clear hs hel hnb hown hrow
        go_wp2_with fail
        refine (rhas_any _ _ _ (by omega) (by omega)).mono ?_
        rintro e w1 ⟨rfl, hb1⟩
        go_wp2
        go_light
        go_roundw
        case rel => exact ⟨c + 1, by go_num, by omega, by rw [Hel.out]; simpa using ownsRow_below Hrow.out hb1 (fun k e => (Hown.out k e).2), Hs.out.below hb1 Hs.out.lt, hb.trans (hb1.mono hb.size)⟩
        case measure => simp [intOf]; omega
      · rw [hx] at hel
        have hx' : p (c : Int).toNat = true := by simpa using hx
        have Hs := Lib.hid hs
        have Hel := Lib.hid hel
        have Hown := Lib.hid hown
        have Hrow := Lib.hid hrow
        have Hnb := Lib.hid hnb
        clear hs hel hnb hown hrow
        go_wp2_with fail
        refine (rhas_any _ _ _ (by omega) (by omega)).mono ?_
        rintro e w1 ⟨rfl, hb1⟩
        have Hr1 := Lib.hid (ownsRow_below Hrow.out hb1 (fun k e => (Hown.out k e).2))
        have hbase := (hb.trans (hb1.mono hb.size)).size
        go_wp2_with (at_builtin; refine wpList_append_own_at _ rfl _ _ 22 rfl w.heap.size 5 i0 (.int .u8 0) 1 1 Tryd.underlying22 hi hz0 hz1 hz2 rfl (by decide) _ _ _ rfl (Hr1.out.alloc _) ⟨w1.heap.size, 0, none⟩ 1 1 [.int .u8 (c : Int)] rfl rfl (cell_one_new _ _ _) (by simp [Value.oneCell']) hb1m hb2m (Nat.le_trans hbase (by simp)) ?_; intro v' w2 hown' hgrow _ _)
        go_light
        go_roundw
        case rel => exact ⟨c + 1, by go_num, by omega, by rw [Hel.out]; simpa [byteCells] using hown', ((Hs.out.below hb1 Hs.out.lt).alloc _).grown hgrow Hnb.out, ((hb.trans (hb1.mono hb.size)).alloc hbase _).grown hgrow (Nat.le_trans hbase (by simp)) (fun k e => (Hown.out k e).1)⟩
        case measure => simp [intOf]; omega
    · have he : c = 256 := by omega
      subst he
      have Hrow := Lib.hid hrow
      clear hrow hs
      go_wp2
      go_light
      go_ret
      exact ⟨_, rfl, Hrow.out, hb⟩

end Go.Proofs.YtkelkadalikibaaDoor
