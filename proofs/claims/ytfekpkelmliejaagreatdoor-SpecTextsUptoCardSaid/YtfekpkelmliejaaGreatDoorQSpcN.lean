/- Texts of the claim. -/
import Derived.Test.YtfekpkelmliejaaGreatDoorQSpecRun
import Derived.Test.YtfekpkelmliejaaGreatDoorQRHas
namespace Go.Proofs.YtfekpkelmliejaaGreatDoor
open Go.RowKit
set_option linter.unusedSimpArgs false
set_option linter.unusedVariables false
set_option maxRecDepth 100000
set_option maxHeartbeats 8000000
theorem empty_list : (ByteArray.mk #[]).toList = [] := by rw [ByteArray.toList_eq]
def nameB (s : List Nat) : Bool := decide (1 ≤ s.length) && (decide (s.length ≤ 32) && decide (runS s = s.length))
theorem str_at {bs : List Nat} (h : ∀ c ∈ bs, c < 256) {k : Nat} (hk : k < bs.length) (W : World) : (Instr.index 9 (.string (strOf bs)) (.int .i64 (k : Int))).run Tryz.prog W = .ok (.int .u8 ((byteAt bs k : Nat) : Int)) W := by
 rw [run_index_string (P := Tryz.prog) W 9 (strOf bs) .i64 (k : Int) Tryz.underlying9, dif_pos (by rw [strOf_size]; omega)]
 congr 3
 have h1 : (strOf bs)[((k : Int)).toNat]'(by rw [strOf_size]; simpa using hk) = UInt8.ofNat bs[k] := by
  show (strOf bs).data[k]'_ = _
  simp [strOf]
 rw [h1, UInt8.toNat_ofNat', Nat.mod_eq_of_lt (by simpa using h bs[k] (List.getElem_mem hk))]
 unfold byteAt
 simp [List.getD, hk]
theorem sruns_go (bs : List Nat) (h256 : ∀ c ∈ bs, c < 256) (hlen : bs.length ≤ 140737488355328) (w : World) :
  Calls Tryz.prog 93 #[.string (strOf bs)] w fun e w' => e = .returned (.int .i64 ((runS bs : Nat) : Int)) ∧ w = w' := by
 have hsz : (strOf bs).size = bs.length := strOf_size bs
 have HI := Lib.hid (fun (k : Nat) (hk : k < bs.length) (W : World) => str_at h256 hk W)
 have HL := Lib.hid (fun k => byteAt_lt h256 k)
 clear h256
 generalize strOf bs = s at *
 go_enter Tryz.func93, Tryz.ntmps93
 go_wp2
 go_loop [3] (fun i => ∃ k : Nat, k ≤ bs.length ∧ Hid (k ≤ runS bs) ∧ i = .int .i64 (k : Int)) (fun i => bs.length - (intOf i).toNat)
 case atStart => exact ⟨0, Nat.zero_le _, Lib.hid (Nat.zero_le _), rfl⟩
 case round =>
  obtain ⟨k, hk, HK, rfl⟩ := hrel
  by_cases hlt : k < bs.length
  ·have hc := HI.out k hlt
   have hb := HL.out k
   generalize hcc : byteAt bs k = c at *
   have HCC := Lib.hid hcc
   clear hcc
   cases ha : isNameA c
   ·by_cases hk0 : k = 0
    ·have HV := Lib.hid (runS_stop HK.out (.inr (show nameAt bs k = false by unfold nameAt; rw [if_pos hk0, ← hk0, HCC.out]; exact ha)))
     have Ha := Lib.hid ha
     have hd0 : ¬ (0 : Int) < (k : Int) := by omega
     clear ha hk0
     go_wp2_with ((with_reducible refine (sletter_go _ _ hb).mono ?_); rintro e w' ⟨rfl, rfl⟩; rw [Ha.out])
     go_ret
     exact ⟨ret_i (congrArg _ HV.out.symm), rfl⟩
    ·have hd0 : (0 : Int) < (k : Int) := by omega
     by_cases h48 : 48 ≤ c ∧ c ≤ 57
     ·have HV := Lib.hid (runS_more HK.out hlt (show nameAt bs k = true by unfold nameAt; rw [if_neg hk0, HCC.out]; simp [isNameB, isDig, h48]))
      have Ha := Lib.hid ha
      obtain ⟨h48, h57⟩ := h48
      clear ha hk0
      go_wp2_with ((with_reducible refine (sletter_go _ _ hb).mono ?_); rintro e w' ⟨rfl, rfl⟩; rw [Ha.out])
      go_round
      case rel => exact ⟨k + 1, by omega, HV, by go_num⟩
      case measure => simp [intOf]; omega
     ·have HV := Lib.hid (runS_stop HK.out (.inr (show nameAt bs k = false by unfold nameAt; rw [if_neg hk0, HCC.out]; simp [isNameB, isDig, ha]; omega)))
      have Ha := Lib.hid ha
      have hd1 : c < 48 ∨ 57 < c := by omega
      clear ha hk0 h48
      rcases hd1 with h48 | h57
      all_goals
       go_wp2_with ((with_reducible refine (sletter_go _ _ hb).mono ?_); rintro e w' ⟨rfl, rfl⟩; rw [Ha.out])
       go_ret
       exact ⟨ret_i (congrArg _ HV.out.symm), rfl⟩
   ·have hna : nameAt bs k = true := by
     unfold nameAt
     rw [HCC.out]
     split
     ·rename_i h
      rw [← h, HCC.out]
      exact ha
     ·simp [isNameB, ha]
    have HV := Lib.hid (runS_more HK.out hlt hna)
    clear hna
    have Ha := Lib.hid ha
    clear ha
    go_wp2_with ((with_reducible refine (sletter_go _ _ hb).mono ?_); rintro e w' ⟨rfl, rfl⟩; rw [Ha.out])
    go_round
    case rel => exact ⟨k + 1, by omega, HV, by go_num⟩
    case measure => simp [intOf]; omega
  ·have HV := Lib.hid (runS_stop HK.out (.inl (by omega)))
   have hf : ¬ (k : Int) < (bs.length : Int) := by omega
   go_wp2_with fail
   go_ret
   exact ⟨ret_i (congrArg _ HV.out.symm), rfl⟩
theorem sname_go (bs : List Nat) (h256 : ∀ c ∈ bs, c < 256) (hlen : bs.length ≤ 140737488355328) (w : World) :
  Calls Tryz.prog 52 #[.string (strOf bs)] w fun e w' => e = .returned (.bool (nameB bs)) ∧ w = w' := by
 have hsz : (strOf bs).size = bs.length := strOf_size bs
 have HC := Lib.hid (sruns_go bs h256 hlen w)
 have HN := Lib.hid (show nameB bs = (decide (1 ≤ bs.length) && (decide (bs.length ≤ 32) && decide (runS bs = bs.length))) from rfl)
 have HE := Lib.hid (show ((strOf bs).toList == (ByteArray.mk #[]).toList) = decide (bs.length = 0) by
  rw [ByteArray.toList_eq, ByteArray.toList_eq, strOf_list]
  cases bs <;> rfl)
 clear h256 hlen
 generalize strOf bs = s at *
 generalize runS bs = r at *
 by_cases h0 : bs.length = 0
 ·have he : (s.toList == (ByteArray.mk #[]).toList) = true := by rw [HE.out]; exact decide_eq_true h0
  have HV := Lib.hid (show nameB bs = false by rw [HN.out, decide_eq_false (by omega)]; rfl)
  have hl1 : s.toList = [] := by
   have h := HE.out
   rw [decide_eq_true h0, beq_iff_eq] at h
   exact h.trans empty_list
  have hl2 : (s.toList == []) = true := by rw [hl1]; rfl
  clear h0 HC
  go_enter Tryz.func52, Tryz.ntmps52
  go_wp2
  go_ret
  exact ⟨by rw [HV.out]; rfl, rfl⟩
 ·have he : (s.toList == (ByteArray.mk #[]).toList) = false := by rw [HE.out]; exact decide_eq_false h0
  have hl2 : (s.toList == []) = false := by rw [← empty_list]; exact he
  have hl1 : ¬ s.toList = [] := by simpa using hl2
  by_cases h32 : bs.length ≤ 32
  ·have HV := Lib.hid (show nameB bs = decide (r = bs.length) by rw [HN.out, decide_eq_true (by omega), decide_eq_true h32]; simp)
   have hd : decide ((bs.length : Int) ≤ 32) = true := by simp; omega
   clear h0
   by_cases hr : r = bs.length
   ·subst hr
    go_enter Tryz.func52, Tryz.ntmps52
    go_wp2_with fail
    refine HC.out.mono ?_
    rintro e w1 ⟨rfl, rfl⟩
    dsimp only
    go_wp2
    go_ret
    exact ⟨by rw [HV.out]; simp, rfl⟩
   ·have hq : ((r : Int) == (bs.length : Int)) = false := by rw [beq_eq_false_iff_ne]; omega
    go_enter Tryz.func52, Tryz.ntmps52
    go_wp2_with fail
    refine HC.out.mono ?_
    rintro e w1 ⟨rfl, rfl⟩
    dsimp only
    go_wp2
    go_ret
    exact ⟨by rw [HV.out, decide_eq_false hr]; rfl, rfl⟩
  ·have HV := Lib.hid (show nameB bs = false by rw [HN.out, decide_eq_false h32]; simp)
   have hd : decide ((bs.length : Int) ≤ 32) = false := by simp; omega
   clear h0 HC
   go_enter Tryz.func52, Tryz.ntmps52
   go_wp2
   go_ret
   exact ⟨by rw [HV.out]; rfl, rfl⟩
theorem rname_go (bs : List Nat) (h256 : ∀ c ∈ bs, c < 256) (hlen : bs.length ≤ 140737488355328) (w : World) :
  Calls Tryz.prog 53 #[.string (strOf bs)] w fun e w' => e = .returned (.bool (nameB bs)) ∧ w = w' := by
 have hsz : (strOf bs).size = bs.length := strOf_size bs
 have HI := Lib.hid (fun (k : Nat) (hk : k < bs.length) (W : World) => str_at h256 hk W)
 have HL := Lib.hid (fun k => byteAt_lt h256 k)
 have HLE := Lib.hid (runS_le bs)
 clear h256
 generalize strOf bs = s at *
 go_enter Tryz.func53, Tryz.ntmps53
 go_wp2
 go_loop [3] (fun i => ∃ k : Nat, k ≤ bs.length ∧ Hid (k ≤ runS bs) ∧ i = .int .i64 (k : Int)) (fun i => bs.length - (intOf i).toNat)
 case atStart => exact ⟨0, Nat.zero_le _, Lib.hid (Nat.zero_le _), rfl⟩
 case round =>
  obtain ⟨k, hk, HK, rfl⟩ := hrel
  by_cases hlt : k < bs.length
  ·have hc := HI.out k hlt
   have hb := HL.out k
   have hdl : (k : Int) < (bs.length : Int) := by omega
   have HM := Lib.hid (may_go (byteAt bs k) (decide (k = 0)) w hb)
   have hz : ((k : Int) == 0) = decide (k = 0) := by by_cases h : k = 0 <;> simp [h]
   have HNA := Lib.hid (show nameAt bs k = if k = 0 then isNameA (byteAt bs 0) else isNameB (byteAt bs k) from rfl)
   generalize hf : decide (k = 0) = f at *
   generalize hcc : byteAt bs k = c at *
   have HCC := Lib.hid hcc
   have HF := Lib.hid hf
   clear hcc hf
   have HE := Lib.hid (show (if f = true then isNameA c else isNameB c) = nameAt bs k by
    rw [HNA.out, ← HF.out]
    by_cases h : k = 0
    ·rw [if_pos h, decide_eq_true h, if_pos rfl, ← HCC.out, h]
    ·rw [if_neg h, decide_eq_false h, if_neg (by decide)])
   rw [HE.out] at HM
   go_wp2_with fail
   refine HM.out.mono ?_
   rintro e w1 ⟨rfl, rfl⟩
   clear HM hc hz
   cases hn : nameAt bs k with
   | true =>
    have HV := Lib.hid (runS_more HK.out hlt hn)
    clear hn
    dsimp only
    go_wp2
    go_round
    case rel => exact ⟨k + 1, by omega, HV, by go_num⟩
    case measure => simp [intOf]; omega
   | false =>
    have HV := Lib.hid (show nameB bs = false by
     unfold nameB
     rw [runS_stop HK.out (.inr hn), decide_eq_false (show ¬ k = bs.length by omega)]
     simp)
    clear hn
    dsimp only
    go_wp2
    go_ret
    exact ⟨by rw [HV.out]; rfl, rfl⟩
  ·have hdl : ¬ (k : Int) < (bs.length : Int) := by omega
   obtain rfl : k = bs.length := by omega
   have HR := Lib.hid (show runS bs = bs.length from Nat.le_antisymm HLE.out HK.out)
   by_cases h1 : 1 ≤ bs.length
   ·have hd1 : decide ((1 : Int) ≤ (bs.length : Int)) = true := by simp; omega
    by_cases h32 : bs.length ≤ 32
    ·have HV := Lib.hid (show nameB bs = true by unfold nameB; rw [decide_eq_true h1, decide_eq_true h32, decide_eq_true HR.out]; rfl)
     go_wp2
     go_ret
     exact ⟨by rw [HV.out]; first | rfl | (simp <;> omega), rfl⟩
    ·have HV := Lib.hid (show nameB bs = false by unfold nameB; rw [decide_eq_false h32]; simp)
     go_wp2
     go_ret
     exact ⟨by rw [HV.out]; first | rfl | (simp <;> omega), rfl⟩
   ·have HV := Lib.hid (show nameB bs = false by unfold nameB; rw [decide_eq_false h1]; rfl)
    go_wp2
    go_ret
    exact ⟨by rw [HV.out]; first | rfl | (simp <;> omega), rfl⟩
end Go.Proofs.YtfekpkelmliejaaGreatDoor
