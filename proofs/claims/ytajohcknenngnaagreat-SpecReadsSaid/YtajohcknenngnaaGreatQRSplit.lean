/-
  The contract of the reference's Split.
-/
import Derived.Test.YtajohcknenngnaaGreatQROne
import Derived.Test.YtajohcknenngnaaGreatQZ04
namespace Go.Proofs.YtajohcknenngnaaGreat
open Go.RowKit
set_option linter.unusedSimpArgs false
set_option linter.unusedVariables false
set_option maxRecDepth 100000

set_option maxHeartbeats 1000000 in
theorem rsplit_long (A : Option Addr) (cap : Nat) (bs : List Nat) (w : World) (hlen : 65536 < bs.length) (hmax : bs.length ≤ 140737488355328) :
    Calls Tryz.prog 62 #[.slice A bs.length cap] w (Cuts (splitS bs) w) := by
  have hd : decide ((65536 : Int) < (bs.length : Int)) = true := by simp; omega
  have hd' : (65536 : Int) < (bs.length : Int) := by omega
  have Hb := Lib.hid (Blk.new w 26 #[.int .i64 0, .int .i64 0])
  obtain ⟨b0, b1, x0, x1⟩ := Hb.out.c2
  rw [splitS_long hlen]
  clear hlen
  go_enter Tryz.func62, Tryz.ntmps62
  go_wp2
  go_light
  refine bodyPost_ret (ret_split Tryz.results62 rfl rfl (Blk.new w 26 #[.int .i64 4, .int .i64 65536])) rfl ⟨rfl, (Below.refl w.heap.size w).alloc (Nat.le_refl _) _⟩

set_option maxHeartbeats 1000000 in
theorem rsplit_in (A : Option Addr) (cap : Nat) (bs : List Nat) (w : World) (hA : BytesAt w w.heap.size A bs) (hcap : bs.length ≤ cap) (hlen : bs.length ≤ 65536) :
    Calls Tryz.prog 62 #[.slice A bs.length cap] w (Cuts (splitS bs) w) := by
  obtain ⟨i0, hi, hz0, hz1, hz2⟩ := info_parts info_lex
  have hl := hA.2.1
  have hb256 := hA.1
  have hd : decide ((65536 : Int) < (bs.length : Int)) = false := by simp; omega
  have hd' : ¬ (65536 : Int) < (bs.length : Int) := by omega
  have HA := Lib.hid hA
  have Hlen := Lib.hid (splitS_go hlen)
  clear hA
  go_enter Tryz.func62, Tryz.ntmps62
  go_wp2
  go_loopw [4, 5] (fun v4 v5 wr => ∃ (i f : Nat) (L : List Lex), v5 = .int .i64 (i : Int) ∧ i ≤ bs.length ∧ L.length ≤ i ∧ bs.length < i + f ∧ splitF bs f i L = splitS bs ∧ wr.ownsRow (w.heap.size + 1) 93 8 v4 L.length (lexCells L) ∧ Blk wr w.heap.size 26 #[.int .i64 0, .int .i64 0] ∧ Below w.heap.size w wr) (fun _ v5 _ => bs.length - (intOf v5).toNat)
  case atStart =>
    refine ⟨0, bs.length + 1, [], rfl, by omega, by simp, by omega, Hlen.out.symm, ?_, (Blk.new _ _ _).alloc _, ((Below.refl _ _).alloc (Nat.le_refl _) _).alloc (by simp) _⟩
    have h := World.ownsRow_made (base := w.heap.size + 1) (size := 8) (e := 93) (w.alloc (.cells #[.int .i64 0, .int .i64 0] 26)) #[] 0 (by simp) (by decide) rfl
    rw [World.size_alloc] at h
    exact h
  case round =>
    obtain ⟨i, f, L, rfl, hi0, hL, hf, hF, hrow, hbr, hB⟩ := hrel
    have hsz := hB.size
    have hwl := hbr.lt
    by_cases hlt : i < bs.length
    · obtain ⟨b, o, rfl, _, _⟩ := HA.out.2.2 (by omega)
      have HG := Lib.hid (rone_go b o cap bs i wr ((HA.out.below hB).more hB.size) hlt hcap)
      have hdl : (i : Int) < (bs.length : Int) := by omega
      have Hbr := Lib.hid hbr
      have HB := Lib.hid hB
      have HF := Lib.hid hF
      have Hrow := Lib.hid hrow
      obtain ⟨f, rfl⟩ : ∃ f', f = f' + 1 := ⟨f - 1, by omega⟩
      clear hrow hB hbr hF
      cases hx : lexS bs i with
      | error x =>
        obtain ⟨k, q⟩ := x
        have hk0 : (k != 0) = true := by rw [bne_iff_ne]; exact lexS_err hb256 hx
        have HV := Lib.hid (show splitS bs = .error (k, q) by rw [← HF.out]; exact splitF_bad hlt hx)
        have Hx := Lib.hid hx
        clear hx
        go_wp2_with fail
        refine HG.out.mono ?_
        rw [Hx.out]
        unfold oneVal lexZero
        dsimp only
        rintro e w1 ⟨rfl, hb1⟩
        have Hbr1 := Lib.hid (Hbr.out.below hb1 hwl)
        obtain ⟨r0, r1, e0, e1⟩ := Hbr1.out.c2
        have lw := Hbr1.out.lt
        have m1 : w.heap.size ≠ w1.heap.size := by omega
        have HB1 := Lib.hid (HB.out.trans (hb1.mono hsz))
        clear hb1
        go_wp2
        go_region
        all_goals go_wp2
        all_goals go_light
        all_goals rw [HV.out]
        refine bodyPost_ret (ret_split Tryz.results62 rfl rfl (((Hbr1.out.set2).alloc _).alloc _).drew) rfl ⟨rfl, (below_more (below_more (below_set2 HB1.out (Nat.le_refl _) _ _) _) _).drew⟩
      | ok x =>
        obtain ⟨x, j⟩ := x
        have hj := lexS_some hb256 hlt hx
        have HV := Lib.hid (show splitF bs f j (L ++ [x]) = splitS bs by rw [← HF.out]; exact (splitF_ok hlt hx).symm)
        have Hx := Lib.hid hx
        clear hx
        go_wp2_with fail
        refine HG.out.mono ?_
        rw [Hx.out]
        unfold oneVal lexVal
        dsimp only
        rintro e w1 ⟨rfl, hb1⟩
        have Hbr1 := Lib.hid (Hbr.out.below hb1 hwl)
        have lw := Hbr1.out.lt
        have HR1 := Lib.hid (own_below Hrow.out hb1)
        have HB1 := Lib.hid (HB.out.trans (hb1.mono hsz))
        have hN1 : w.heap.size + 1 ≤ w1.heap.size := by omega
        clear hb1
        have h63 : L.length + 1 ≤ maxLen := Nat.le_trans (by omega) (show 200000 ≤ maxLen by decide)
        have hby : (L.length + 1) * 64 ≤ 140737488355328 := by omega
        have Hne := Lib.hid (blk_not_row Hbr1.out (by decide) HR1.out)
        go_wp2_with (at_builtin; refine wpList_append_own_at _ rfl _ _ 88 rfl (w.heap.size + 1) 93 i0 _ 8 64 Tryz.underlying88 hi hz0 hz1 hz2 rfl (by decide) _ _ _ rfl (((HR1.out.alloc _).alloc _).alloc _) ⟨w1.heap.size + 1 + 1, 0, none⟩ 1 1 (lexCell x) rfl rfl (World.news_of_block (Blk.new_at (by simp))) (by simp [lexCell, Value.oneCell']) h63 hby (by simp; omega) ?_; intro v' w9 hown' hgrow _ _)
        have Hown9 := Lib.hid hown'
        have Hgrow9 := Lib.hid hgrow
        clear hown' hgrow
        go_wp2
        go_light
        go_roundw
        case rel => exact ⟨j, f, L ++ [x], rfl, hj.2, by simp; omega, by omega, HV.out, by rw [lexCells_snoc]; simpa using Hown9.out, (((Hbr1.out.alloc _).alloc _).alloc _).grown Hgrow9.out Hne.out, below_grown (below_more (below_more (below_more HB1.out _) _) _) Hgrow9.out (((HR1.out.alloc _).alloc _).alloc _) (by omega) (by simp; omega)⟩
        case measure => simp [intOf]; omega
    · have HV := Lib.hid (show splitS bs = .ok L by rw [← hF]; obtain ⟨f, rfl⟩ : ∃ f', f = f' + 1 := ⟨f - 1, by omega⟩; exact splitF_end (by omega))
      have hdl : ¬ (i : Int) < (bs.length : Int) := by omega
      obtain ⟨r0, r1, e0, e1⟩ := hbr.c2
      have Hbr := Lib.hid hbr
      have HB := Lib.hid hB
      have Hrow := Lib.hid hrow
      have Hne := Lib.hid (blk_not_row hbr (by decide) hrow)
      clear hrow hB hbr hF
      go_wp2
      go_light
      rw [HV.out]
      refine bodyPost_ret (ret_split Tryz.results62 rfl rfl Hbr.out.set2) rfl ⟨_, rfl, below_set2 HB.out (Nat.le_refl _) _ _, own_set (own_set (own_mono Hrow.out (Nat.le_succ _)) Hne.out) Hne.out⟩
theorem rsplit_go (A : Option Addr) (cap : Nat) (bs : List Nat) (w : World) (hA : BytesAt w w.heap.size A bs) (hcap : bs.length ≤ cap) :
    Calls Tryz.prog 62 #[.slice A bs.length cap] w (Cuts (splitS bs) w) := by
  rcases Nat.lt_or_ge 65536 bs.length with h | h
  · exact rsplit_long A cap bs w h hA.2.1
  · exact rsplit_in A cap bs w hA hcap h

end Go.Proofs.YtajohcknenngnaaGreat
