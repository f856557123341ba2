/- Texts of the claim. -/
import Derived.Lib.BytesEntry
import Derived.Lib.Walk
import Derived.Laws.Externs
import Derived.RegionTactic
import Derived.Test.YtfekpkelmliejaaGreatDoorQSpecRun
namespace Go.Proofs.YtfekpkelmliejaaGreatDoor
open Go.RowKit
set_option linter.unusedSimpArgs false
set_option linter.unusedVariables false
set_option maxRecDepth 100000
set_option maxHeartbeats 8000000
def upTo (bs : List Nat) : List Nat := bs.takeWhile (fun c => !(c == 10))
theorem upTo_le (bs : List Nat) : (upTo bs).length ≤ bs.length := (List.takeWhile_prefix _).length_le
theorem u8_ten {c : Nat} (h : c < 256) : ((c : Int).toNat.toUInt8 == (10 : UInt8)) = (c == 10) := by
 rw [Bool.eq_iff_iff, beq_iff_eq, beq_iff_eq, Int.toNat_natCast]
 constructor
 ·intro e
  have := congrArg UInt8.toNat e
  simp at this
  omega
 ·rintro rfl
  rfl
def nlAt (bs : List Nat) : Int := if (upTo bs).length = bs.length then -1 else (((upTo bs).length : Nat) : Int)
theorem nl_index : ∀ (bs : List Nat), (∀ x ∈ bs, x < 256) → Lib.indexByte (Lib.bytesOf (bs.map fun n : Nat => (n : Int))) 10 = if (upTo bs).length = bs.length then -1 else (((upTo bs).length : Nat) : Int)
 | [], _ => rfl
 | c :: l, h => by
  have ih := nl_index l (fun x hx => h x (List.mem_cons_of_mem c hx))
  have hc : c < 256 := h c (by simp)
  have hl := upTo_le l
  show (if ((c : Int).toNat.toUInt8 == (10 : UInt8)) = true then 0 else if (Lib.indexByte (Lib.bytesOf (l.map fun n : Nat => (n : Int))) 10 == -1) = true then -1 else Lib.indexByte (Lib.bytesOf (l.map fun n : Nat => (n : Int))) 10 + 1) = _
  rw [u8_ten hc, ih]
  by_cases h10 : c = 10
  ·subst h10
   simp [upTo]
  ·have e : upTo (c :: l) = c :: upTo l := by unfold upTo; rw [List.takeWhile_cons, if_pos (by simpa using h10)]
   rw [if_neg (by simpa using h10), e]
   simp only [List.length_cons]
   by_cases hf : (upTo l).length = l.length
   ·rw [if_pos hf, if_pos (by decide), if_pos (by omega)]
   ·rw [if_neg hf, if_neg (by rw [beq_iff_eq]; omega), if_neg (by omega)]
    omega
theorem ibyte_go (b o cap : Nat) (bs : List Nat) (w : World) (hb : ∀ x ∈ bs, x < 256) (hc : ∀ i, i < bs.length → w.cell? ⟨b, o + i, none⟩ = some (.int .u8 ((byteAt bs i : Nat) : Int))) :
  Calls Tryz.prog 221 #[.slice (some ⟨b, o, none⟩) bs.length cap, .int .u8 10] w fun e w' => e = .returned (.int .i64 (nlAt bs)) ∧ w = w' := by
 have HR := Lib.hid (Lib.run_indexByteSlice (P := Tryz.prog) (w := w) b o bs.length cap (bs.map fun n : Nat => (n : Int)) (by simp) (fun i hi => by rw [hc i hi]; congr 2; unfold byteAt; simp [List.getD, hi]) 10)
 have HN := Lib.hid (nl_index bs hb)
 clear hc
 go_enter Tryz.func221, Tryz.ntmps221
 go_wp2
 rw [run_callFunc_extern Tryz.func250 (by kernel_rfl) (by kernel_rfl) (by kernel_rfl) (e := Extern.BytealgIndexByte.indexByte) (by kernel_rfl), HR.out]
 simp only [Result.andThen]
 rw [Oper.upon_value]
 go_wp2
 go_ret
 exact ⟨ret_i HN.out, rfl⟩
theorem index_go (b o cap g : Nat) (bs : List Nat) (w : World) (hb : ∀ x ∈ bs, x < 256) (hc : ∀ i, i < bs.length → w.cell? ⟨b, o + i, none⟩ = some (.int .u8 ((byteAt bs i : Nat) : Int))) (hg : w.cell? ⟨g, 0, none⟩ = some (.int .u8 10)) :
  Calls Tryz.prog 180 #[.slice (some ⟨b, o, none⟩) bs.length cap, .slice (some ⟨g, 0, none⟩) 1 1] w fun e w' => e = .returned (.int .i64 (nlAt bs)) ∧ w = w' := by
 have HC := Lib.hid (ibyte_go b o cap bs w hb hc)
 clear hc
 go_enter Tryz.func180, Tryz.ntmps180
 go_wp2_with (go_at_call 221; refine HC.out.mono ?_; rintro e w' ⟨rfl, rfl⟩)
 go_ret
 exact ⟨rfl, rfl⟩
def CutOut (b o n cap : Nat) (w : World) (e : Ending) (w' : World) : Prop := ∃ A2 n2 c2 f, e = .returned (.tuple #[.slice (some ⟨b, o, none⟩) n cap, .slice A2 n2 c2, .bool f]) ∧ ∃ q, w' = w.drewN q
theorem cut_go (b o cap g : Nat) (bs : List Nat) (w : World) (hlen : bs.length ≤ 140737488355328) (hcap : bs.length ≤ cap) (hb : ∀ x ∈ bs, x < 256) (hc : ∀ i, i < bs.length → w.cell? ⟨b, o + i, none⟩ = some (.int .u8 ((byteAt bs i : Nat) : Int))) (hg : w.cell? ⟨g, 0, none⟩ = some (.int .u8 10)) :
  Calls Tryz.prog 138 #[.slice (some ⟨b, o, none⟩) bs.length cap, .slice (some ⟨g, 0, none⟩) 1 1] w (CutOut b o (upTo bs).length cap w) := by
 have HC := Lib.hid (index_go b o cap g bs w hb hc hg)
 have hl := upTo_le bs
 clear hc hg
 by_cases hf : (upTo bs).length = bs.length
 ·have hna : nlAt bs = -1 := if_pos hf
  rw [hna] at HC
  rw [hf]
  clear hf hl hna
  go_enter Tryz.func138, Tryz.ntmps138
  go_wp2_with (go_at_call 180; refine HC.out.mono ?_; rintro e w' ⟨rfl, rfl⟩)
  go_ret3
  exact ⟨_, _, _, _, rfl, 0, rfl⟩
 ·have hna : nlAt bs = (((upTo bs).length : Nat) : Int) := if_neg hf
  rw [hna] at HC
  have hlt : (upTo bs).length < bs.length := by omega
  clear hf hl hna
  generalize (upTo bs).length = n at *
  go_enter Tryz.func138, Tryz.ntmps138
  go_wp2_with (go_at_call 180; refine HC.out.mono ?_; rintro e w' ⟨rfl, rfl⟩)
  go_region
  all_goals go_wp2
  all_goals go_ret3
  all_goals exact ⟨_, _, _, _, rfl, 1, rfl⟩
end Go.Proofs.YtfekpkelmliejaaGreatDoor
