/- Texts of the claim. -/
import Derived.Test.YtfekpkelmliejaaGreatDoorQSpecL
import Derived.Test.YtfekpkelmliejaaGreatDoorQNlCut
import Derived.Test.YtfekpkelmliejaaGreatDoorQZ03
namespace Go.Proofs.YtfekpkelmliejaaGreatDoor
open Go.RowKit Go.Shelf
set_option linter.unusedSimpArgs false
set_option linter.unusedVariables false
set_option maxRecDepth 100000
set_option maxHeartbeats 8000000
attribute [local go_sem] Oper.semAt_some
def Kl (n₀ Bs : Nat) (A B : World) : Prop := Below n₀ A B ∧ B.heap[Bs]? = A.heap[Bs]?
theorem Kl.trans {n₀ Bs : Nat} {A B C : World} (h : Kl n₀ Bs A B) (k : Kl n₀ Bs B C) : Kl n₀ Bs A C := ⟨h.1.trans k.1, k.2.trans h.2⟩
abbrev PosOf (bs : List Nat) := { i : Nat // i < bs.length }
def lineV (b o cap : Nat) (bs : List Nat) (x : PosOf bs) : Array Value := #[.int .i64 (x.1 : Int), .slice (some ⟨b, o + x.1, none⟩) (lineAt bs x.1).length (cap - x.1)]
theorem lineAt_upTo (bs : List Nat) (i : Nat) : lineAt bs i = upTo (bs.drop i) := rfl
theorem lines_go (A : Option Addr) (n cap : Nat) (w : World) :
  Calls Tryz.prog 95 #[.slice A n cap] w fun e w' => e = .returned (.func (.func 137) #[] #[.pointer (some ⟨w.heap.size, 0, none⟩)]) ∧ w.alloc (.cells #[.slice A n cap] 30) = w' := by
 go_enter Tryz.func95, Tryz.ntmps95
 go_wp2
 go_ret
 exact ⟨rfl, rfl⟩
theorem lines1_in (n : Nat) (b o cap : Nat) (bs : List Nat) (l Bs n₀ : Nat) (hcap : bs.length ≤ cap) (hn₀ : n₀ ≤ Bs) (J Jx : List (PosOf bs) → World → Prop) (hJ : ∀ s W W', J s W → W.grownBy W' none → J s W')
  (hY : ∀ pre (y : PosOf bs) W, J pre W → pre.length < bs.length + 1 → YieldAt Fence.wide (n - 1) Tryz.prog l (lineV b o cap bs y) W fun e W' =>
   (e = .returned (.bool true) ∧ J (pre ++ [y]) W' ∧ Kl n₀ Bs W W') ∨ (e = .returned (.bool false) ∧ Jx (pre ++ [y]) W'))
  (W : World) (hBs : Blk W Bs 30 #[.slice (some ⟨b, o, none⟩) bs.length cap]) (hA : BytesAt W n₀ (some ⟨b, o, none⟩) bs) (h0 : J [] W) :
  CallsIn Fence.wide n Tryz.prog 137 #[.func (.yield l) #[] #[], .pointer (some ⟨Bs, 0, none⟩)] W fun e W' => (∃ v, e = .returned v) ∧
   ((∃ ys : List (PosOf bs), ys.map (·.1) = starts bs 0 ∧ J ys W') ∨ (∃ pre : List (PosOf bs), pre.map (·.1) <+: starts bs 0 ∧ Jx pre W')) := by
 have hdd : ∀ k : Nat, (Fence.wide.depth.isSome = true → 1 ≤ k) := fun k h => by cases h
 have hlen := hA.2.1
 have H0 := Lib.hid (show Blk W Bs 30 #[.slice (some ⟨b, o, none⟩) bs.length cap] ∧ BytesAt W n₀ (some ⟨b, o, none⟩) bs ∧ J [] W from ⟨hBs, hA, h0⟩)
 clear hBs hA h0
 refine callsIn_of_wp Tryz.func137 rfl trivial ?_ rfl
 simp only [Tryz.ntmps137, List.size_toArray, List.length_cons, List.length_nil, Nat.reduceAdd, Nat.reduceSub, Array.replicate_succ, Array.replicate_zero, List.push_toArray, List.append_toArray, List.nil_append, List.cons_append]
 gi_wp2
 gi_loopw [3] (fun v wr => ∃ i : Nat, v = .int .i64 (i : Int) ∧ i ≤ bs.length + 1 ∧ Hid (Blk wr Bs 30 #[.slice (some ⟨b, o, none⟩) bs.length cap] ∧ BytesAt wr n₀ (some ⟨b, o, none⟩) bs ∧ ∃ pre : List (PosOf bs), pre.map (·.1) ++ starts bs i = starts bs 0 ∧ J pre wr)) (fun v _ => bs.length + 1 - (intOf v).toNat)
 case atStart => exact ⟨0, rfl, Nat.zero_le _, Lib.hid ⟨H0.out.1, H0.out.2.1, [], by simp, H0.out.2.2⟩⟩
 case round =>
  clear H0
  obtain ⟨i, rfl, hi, HI⟩ := hrel
  have cB := HI.out.1.cell 0
  have cB : wr.cell? ⟨Bs, 0, none⟩ = some (.slice (some ⟨b, o, none⟩) bs.length cap) := cB
  by_cases hlt : i < bs.length
  ·obtain ⟨hBk, hBy, pre, hpre, hJp⟩ := HI.out
   have hdl : (i : Int) < (bs.length : Int) := by omega
   have hne : ¬ cap = i := by omega
   have hdl2 : i ≤ bs.length := by omega
   have hsub : (bs.drop i).length = bs.length - i := by simp
   have hC := cut_go b (o + i) (cap - i) wr.heap.size (bs.drop i) (wr.alloc (.cells #[.int .u8 10] 5)) (by omega) (by omega) (fun x hx => hBy.1 x (List.mem_of_mem_drop hx)) (fun k hk => by
    obtain ⟨b', o', e, hbl, hc⟩ := hBy.2.2 (by omega)
    cases e
    rw [byteAt_drop, Nat.add_assoc]
    exact ((Below.refl wr.heap.size wr).alloc (Nat.le_refl _) _).cell (p := ⟨b, o + (i + k), none⟩) (World.block_lt_of_cell? wr _ (hc (i + k) (by omega))) |>.trans (hc (i + k) (by omega))) ((Blk.new wr _ _).cell 0)
   rw [hsub, ← lineAt_upTo] at hC
   have HC := Lib.hid hC
   have HP := Lib.hid (show _ ∧ _ ∧ _ ∧ _ from ⟨hBk, hBy, hpre, hJp⟩)
   have hll := lineAt_len bs i
   clear hBk hBy hpre hJp hC hsub HI
   gi_wp2
   refine ⟨trivial, hdd _, (callsIn_wide.2 HC.out).mono ?_⟩
   rintro e w3 ⟨A2, n2, c2, f2, rfl, q, rfl⟩
   dsimp only
   have hY3 := hY pre ⟨i, hlt⟩ ((wr.alloc (.cells #[.int .u8 10] 5)).drewN q) (hJ _ _ _ (hJ _ _ _ HP.out.2.2.2 (World.grownBy_alloc _ _ none)) ⟨rfl, rfl, rfl, Nat.le_refl _, fun _ _ _ => rfl⟩) (by
    have := congrArg List.length HP.out.2.2.1
    have h0 := starts_len bs _ 0 (Nat.le_refl _)
    simp at this h0
    omega)
   obtain ⟨fn, tmps, assign, body, hy, hR⟩ := hY3
   have HR := Lib.hid hR
   clear hR HC
   unfold lineV at hy
   dsimp only at hy
   gi_wp2
   refine ⟨hdd _, HR.out.mono ?_⟩
   have hB0 : Below wr.heap.size wr ((wr.alloc (.cells #[.int .u8 10] 5)).drewN q) := bel_drewN ((Below.refl wr.heap.size wr).alloc (Nat.le_refl _) _) q
   have hBs0 : Bs < wr.heap.size := HP.out.1.lt
   have HB0 := Lib.hid hB0
   clear hB0
   rintro e W3 (⟨rfl, hJ3, hk3⟩ | ⟨rfl, hJx3⟩)
   ·have HI4 := Lib.hid (show Blk W3 Bs 30 #[.slice (some ⟨b, o, none⟩) bs.length cap] ∧ BytesAt W3 n₀ (some ⟨b, o, none⟩) bs ∧ ∃ pre : List (PosOf bs), pre.map (·.1) ++ starts bs (i + (lineAt bs i).length + 1) = starts bs 0 ∧ J pre W3 from
     ⟨hk3.2.trans ((HB0.out.block Bs hBs0).trans HP.out.1), (HP.out.2.1.below (HB0.out.mono (by omega))).below hk3.1, pre ++ [⟨i, hlt⟩], by
      have := HP.out.2.2.1
      rw [starts_go hlt] at this
      simpa using this, hJ3⟩)
    clear hJ3 hk3 HB0 HR hy cB
    dsimp only
    gi_wp2
    go_roundw
    case rel => exact ⟨i + (lineAt bs i).length + 1, by go_num, by omega, HI4⟩
    case measure => simp [intOf]; omega
   ·have HQ := Lib.hid (show (pre ++ [(⟨i, hlt⟩ : PosOf bs)]).map (fun x => x.1) <+: starts bs 0 ∧ Jx (pre ++ [(⟨i, hlt⟩ : PosOf bs)]) W3 from ⟨by
     have := HP.out.2.2.1
     rw [starts_go hlt] at this
     exact ⟨starts bs (i + (lineAt bs i).length + 1), by simpa using this⟩, hJx3⟩)
    clear hJx3 HB0 HR hy cB
    dsimp only
    gi_wp2
    refine bodyPost_ret (results_none rfl _ _ _) rfl ?_
    exact ⟨⟨_, rfl⟩, .inr ⟨_, HQ.out⟩⟩
  ·have hdl : ¬ (i : Int) < (bs.length : Int) := by omega
   obtain ⟨hBk, hBy, pre, hpre, hJp⟩ := HI.out
   rw [starts_end (by omega), List.append_nil] at hpre
   have HP := Lib.hid hpre
   have HJ := Lib.hid hJp
   clear hpre hJp hBk hBy
   gi_wp2
   go_end0
   exact ⟨⟨_, rfl⟩, .inl ⟨pre, HP.out, HJ.out⟩⟩
theorem lines_stops (n : Nat) (b o cap : Nat) (bs : List Nat) (Bs n₀ : Nat) (w : World) (hcap : bs.length ≤ cap) (hn₀ : n₀ ≤ Bs) (hBs : Blk w Bs 30 #[.slice (some ⟨b, o, none⟩) bs.length cap]) (hA : BytesAt w n₀ (some ⟨b, o, none⟩) bs) :
  SeqStopsK Fence.wide n Tryz.prog 137 #[.pointer (some ⟨Bs, 0, none⟩)] (lineV b o cap bs) (Kl n₀ Bs) (fun ys => ys.map (·.1) = starts bs 0) (fun pre => pre.map (·.1) <+: starts bs 0) (bs.length + 1) w := fun l J Jx W hW hJ _ hY h0 =>
 lines1_in n b o cap bs l Bs n₀ hcap hn₀ J Jx (fun s W W' h hg => hJ s W W' none h hg (fun r e => by cases e)) hY W (hBs.below hW hBs.lt) ((hA.below (hW.mono (Nat.le_of_lt (Nat.lt_of_le_of_lt hn₀ hBs.lt))))) h0
end Go.Proofs.YtfekpkelmliejaaGreatDoor
