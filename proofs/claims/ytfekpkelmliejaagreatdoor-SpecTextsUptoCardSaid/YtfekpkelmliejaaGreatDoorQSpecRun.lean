/- Texts of the claim. -/
import Derived.Deep.QuietTactic
import Derived.BigQuiet
import Derived.Test.YtfekpkelmliejaaGreatDoorQSpecP
import Derived.Test.YtfekpkelmliejaaGreatDoorQZ01
namespace Go.Proofs.YtfekpkelmliejaaGreatDoor
open Go.RowKit
set_option linter.unusedSimpArgs false
set_option linter.unusedVariables false
set_option maxRecDepth 100000
set_option maxHeartbeats 8000000
theorem isNameA_iff (c : Nat) : isNameA c = true ↔ c = 95 ∨ (97 ≤ c ∧ c ≤ 122) ∨ (65 ≤ c ∧ c ≤ 90) := by
 unfold isNameA
 simp
 omega
theorem nameOr : ∀ c : Fin 256, (97 ≤ bits BinOp.or IntKind.u8 (c.val : Int) 32 ∧ bits BinOp.or IntKind.u8 (c.val : Int) 32 ≤ 122) ↔ ((97 ≤ c.val ∧ c.val ≤ 122) ∨ (65 ≤ c.val ∧ c.val ≤ 90)) := by decide +kernel
theorem sletter_go (c : Nat) (w : World) (h1 : c < 256) :
  Calls Tryz.prog 136 #[.int .u8 (c : Int)] w fun e w' => e = .returned (.bool (isNameA c)) ∧ w = w' := by
 have HO := Lib.hid (nameOr ⟨c, h1⟩)
 go_enter Tryz.func136, Tryz.ntmps136
 go_wp2
 all_goals go_light
 all_goals go_ret
 all_goals refine ⟨ret_b ?_, rfl⟩
 all_goals
  have ho := HO.out
  generalize bits BinOp.or IntKind.u8 (c : Int) 32 = d at *
  rw [Bool.eq_iff_iff, isNameA_iff]
  simp
  omega
theorem may_go (c : Nat) (f : Bool) (w : World) (h1 : c < 256) :
  Calls Tryz.prog 94 #[.int .u8 (c : Int), .bool f] w fun e w' => e = .returned (.bool (if f = true then isNameA c else isNameB c)) ∧ w = w' := by
 go_enter Tryz.func94, Tryz.ntmps94
 go_wp2
 all_goals go_light
 all_goals go_ret
 all_goals refine ⟨ret_b ?_, rfl⟩
 all_goals (rw [Bool.eq_iff_iff]; cases f <;> simp [isNameB, isNameA, isDig] <;> omega)
theorem BytesAt.one {w : World} {B : Nat} {A : Option Addr} {bs : List Nat} (h : BytesAt w B A bs) {k : Nat} (hk : k < bs.length) : ∃ b o, A = some ⟨b, o, none⟩ ∧ w.cell? ⟨b, o + k, none⟩ = some (.int .u8 ((byteAt bs k : Nat) : Int)) ∧ byteAt bs k < 256 := by
 obtain ⟨b, o, hA, _, hc⟩ := h.2.2 (by omega)
 exact ⟨b, o, hA, hc k hk, byteAt_lt h.1 k⟩
theorem srun_go (A : Option Addr) (cap : Nat) (bs : List Nat) (B : Nat) (w : World) (hA : BytesAt w B A bs) :
  Calls Tryz.prog 181 #[.slice A bs.length cap] w fun e w' => e = .returned (.int .i64 ((runS bs : Nat) : Int)) ∧ w = w' := by
 have hlen := hA.2.1
 have HA := Lib.hid hA
 clear hA
 go_enter Tryz.func181, Tryz.ntmps181
 go_wp2
 go_loop [3] (fun i => ∃ k : Nat, k ≤ bs.length ∧ Hid (k ≤ runS bs) ∧ i = .int .i64 (k : Int)) (fun i => bs.length - (intOf i).toNat)
 case atStart => exact ⟨0, Nat.zero_le _, Lib.hid (Nat.zero_le _), rfl⟩
 case round =>
  obtain ⟨k, hk, HK, rfl⟩ := hrel
  by_cases hlt : k < bs.length
  ·obtain ⟨b, o, rfl, hc, hb⟩ := HA.out.one hlt
   generalize hcc : byteAt bs k = c at *
   have HCC := Lib.hid hcc
   clear hcc
   cases ha : isNameA c
   ·by_cases hk0 : k = 0
    ·have HV := Lib.hid (runS_stop HK.out (.inr (show nameAt bs k = false by unfold nameAt; rw [if_pos hk0, ← hk0, HCC.out]; exact ha)))
     have Ha := Lib.hid ha
     have hd0 : ¬ (0 : Int) < (k : Int) := by omega
     clear ha hk0
     go_wp2_with ((with_reducible refine (sletter_go _ _ hb).mono ?_); rintro e w' ⟨rfl, rfl⟩; rw [Ha.out])
     go_ret
     exact ⟨ret_i (congrArg _ HV.out.symm), rfl⟩
    ·have hd0 : (0 : Int) < (k : Int) := by omega
     by_cases h48 : 48 ≤ c ∧ c ≤ 57
     ·have HV := Lib.hid (runS_more HK.out hlt (show nameAt bs k = true by unfold nameAt; rw [if_neg hk0, HCC.out]; simp [isNameB, isDig, h48]))
      have Ha := Lib.hid ha
      obtain ⟨h48, h57⟩ := h48
      clear ha hk0
      go_wp2_with ((with_reducible refine (sletter_go _ _ hb).mono ?_); rintro e w' ⟨rfl, rfl⟩; rw [Ha.out])
      go_round
      case rel => exact ⟨k + 1, by omega, HV, by go_num⟩
      case measure => simp [intOf]; omega
     ·have HV := Lib.hid (runS_stop HK.out (.inr (show nameAt bs k = false by unfold nameAt; rw [if_neg hk0, HCC.out]; simp [isNameB, isDig, ha]; omega)))
      have Ha := Lib.hid ha
      have hd1 : c < 48 ∨ 57 < c := by omega
      clear ha hk0 h48
      rcases hd1 with h48 | h57
      all_goals
       go_wp2_with ((with_reducible refine (sletter_go _ _ hb).mono ?_); rintro e w' ⟨rfl, rfl⟩; rw [Ha.out])
       go_ret
       exact ⟨ret_i (congrArg _ HV.out.symm), rfl⟩
   ·have hna : nameAt bs k = true := by
     unfold nameAt
     rw [HCC.out]
     split
     ·rename_i h
      rw [← h, HCC.out]
      exact ha
     ·simp [isNameB, ha]
    have HV := Lib.hid (runS_more HK.out hlt hna)
    clear hna
    have Ha := Lib.hid ha
    clear ha
    go_wp2_with ((with_reducible refine (sletter_go _ _ hb).mono ?_); rintro e w' ⟨rfl, rfl⟩; rw [Ha.out])
    go_round
    case rel => exact ⟨k + 1, by omega, HV, by go_num⟩
    case measure => simp [intOf]; omega
  ·have HV := Lib.hid (runS_stop HK.out (.inl (by omega)))
   have hf : ¬ (k : Int) < (bs.length : Int) := by omega
   go_wp2_with fail
   go_ret
   exact ⟨ret_i (congrArg _ HV.out.symm), rfl⟩
end Go.Proofs.YtfekpkelmliejaaGreatDoor
