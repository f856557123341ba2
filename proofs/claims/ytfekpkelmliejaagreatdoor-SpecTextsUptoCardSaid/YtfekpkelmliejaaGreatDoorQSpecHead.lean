/- Texts of the claim. -/
import Derived.Test.YtfekpkelmliejaaGreatDoorQRuleRow
import Derived.Test.YtfekpkelmliejaaGreatDoorQSpecRun
import Derived.Test.YtfekpkelmliejaaGreatDoorQZ05
namespace Go.Proofs.YtfekpkelmliejaaGreatDoor
open Go.RowKit Go.Maps
set_option linter.unusedSimpArgs false
set_option linter.unusedVariables false
set_option maxRecDepth 100000
set_option maxHeartbeats 8000000
def HeadOut (r : Except Wrong (List Nat)) (w : World) (e : Ending) (w' : World) : Prop :=
 (match r with
 | .ok n => e = .returned (.tuple #[.string (strOf n), .agg #[.int .i64 0, .int .i64 0]])
 | .error (k, q) => e = .returned (.tuple #[.string (strOf []), .agg #[.int .i64 k, .int .i64 q]])) ∧ Below w.heap.size w w'
def RdrAt (w : World) (S : Nat) (Ar : Option Addr) (n capr M : Nat) : Prop := Blk w S 126 #[.slice Ar n capr, .map (some M)]
theorem str_run (w : World) (b o n cap : Nat) (bs : List Nat) (hn : n ≤ bs.length) (hc : ∀ i, i < bs.length → w.cell? ⟨b, o + i, none⟩ = some (.int .u8 ((byteAt bs i : Nat) : Int))) :
  (convert 30 9 (.slice (some ⟨b, o, none⟩) n cap)).run Tryz.prog w = .ok (.string (strOf (bs.take n))) w := by
 have h := run_str w ⟨b, o, none⟩ cap (bs.take n) (fun j u hu => by
  have hj : j < n := by
   have := (List.getElem?_eq_some_iff.mp hu).1
   simp at this
   omega
  rw [List.getElem?_map, List.getElem?_take_of_lt hj, List.getElem?_eq_getElem (by omega), byteAt_get (by omega)] at hu
  simp at hu
  rw [Go.WideShapes.add_plain, hc j (by omega), hu])
 rw [List.length_take, Nat.min_eq_left hn] at h
 exact h
theorem head_many (S M B : Nat) (Ar A : Option Addr) (capr cap : Nat) (rs : List RuleS) (bs : List Nat) (w : World) (hS : RdrAt w S Ar rs.length capr M) (hA : BytesAt w B A bs) (hB : B ≤ w.heap.size) (h64 : rs.length = 64) :
  Calls Tryz.prog 139 #[.pointer (some ⟨S, 0, none⟩), .slice A bs.length cap] w (HeadOut (headS rs bs) w) := by
 have HV := Lib.hid (show headS rs bs = .error (18, 0) by unfold headS; rw [if_pos h64])
 have hlen := hA.2.1
 have hrl := runS_le bs
 have hA1 : BytesAt (w.alloc (.cells #[.int .i64 0, .int .i64 0] 75)) B A bs := hA.below ((Below.refl B w).alloc hB _)
 have HR := Lib.hid (srun_go A cap bs B (w.alloc (.cells #[.int .i64 0, .int .i64 0] 75)) hA1)
 have hS' := Blk.alloc hS (.cells #[.int .i64 0, .int .i64 0] 75)
 have s0 : (w.alloc (.cells #[.int .i64 0, .int .i64 0] 75)).cell? ⟨S, 0, none⟩ = some (.slice Ar rs.length capr) := Blk.cell hS' 0
 have s1 : (w.alloc (.cells #[.int .i64 0, .int .i64 0] 75)).cell? ⟨S, 1, none⟩ = some (.map (some M)) := Blk.cell hS' 1
 have hd : ((rs.length : Int) == 64) = true := by rw [beq_iff_eq]; omega
 clear hS hA h64 hS'
 go_enter Tryz.func139, Tryz.ntmps139
 go_wp2_with ((with_reducible refine HR.out.mono ?_); rintro e w' ⟨rfl, rfl⟩)
 exact bodyPost_ret (ret_split (c := .string (strOf [])) Tryz.results139 rfl rfl (Blk.new _ _ _)) rfl ⟨by rw [HV.out], (Below.refl _ _).alloc (Nat.le_refl _) _⟩
theorem head_none (S M B : Nat) (Ar A : Option Addr) (capr cap : Nat) (rs : List RuleS) (bs : List Nat) (w : World) (hS : RdrAt w S Ar rs.length capr M) (hA : BytesAt w B A bs) (hB : B ≤ w.heap.size) (h64 : rs.length < 64) (h0 : runS bs = 0) :
  Calls Tryz.prog 139 #[.pointer (some ⟨S, 0, none⟩), .slice A bs.length cap] w (HeadOut (headS rs bs) w) := by
 have HV := Lib.hid (show headS rs bs = .error (9, 0) by unfold headS; rw [if_neg (by omega), if_pos h0])
 have hlen := hA.2.1
 have hrl := runS_le bs
 have hA1 : BytesAt (w.alloc (.cells #[.int .i64 0, .int .i64 0] 75)) B A bs := hA.below ((Below.refl B w).alloc hB _)
 have HR := Lib.hid (srun_go A cap bs B (w.alloc (.cells #[.int .i64 0, .int .i64 0] 75)) hA1)
 have hS' := Blk.alloc hS (.cells #[.int .i64 0, .int .i64 0] 75)
 have s0 : (w.alloc (.cells #[.int .i64 0, .int .i64 0] 75)).cell? ⟨S, 0, none⟩ = some (.slice Ar rs.length capr) := Blk.cell hS' 0
 have s1 : (w.alloc (.cells #[.int .i64 0, .int .i64 0] 75)).cell? ⟨S, 1, none⟩ = some (.map (some M)) := Blk.cell hS' 1
 have hd : ((rs.length : Int) == 64) = false := by rw [beq_eq_false_iff_ne]; omega
 rw [h0] at HR
 clear hS hA hA1 h64 hS' h0 hrl
 go_enter Tryz.func139, Tryz.ntmps139
 go_wp2_with ((with_reducible refine HR.out.mono ?_); rintro e w' ⟨rfl, rfl⟩)
 exact bodyPost_ret (ret_split (c := .string (strOf [])) Tryz.results139 rfl rfl (Blk.new _ _ _)) rfl ⟨by rw [HV.out], (Below.refl _ _).alloc (Nat.le_refl _) _⟩
theorem head_long (S M B : Nat) (Ar A : Option Addr) (capr cap : Nat) (rs : List RuleS) (bs : List Nat) (w : World) (hS : RdrAt w S Ar rs.length capr M) (hA : BytesAt w B A bs) (hB : B ≤ w.heap.size) (h64 : rs.length < 64) (h0 : 32 < runS bs) :
  Calls Tryz.prog 139 #[.pointer (some ⟨S, 0, none⟩), .slice A bs.length cap] w (HeadOut (headS rs bs) w) := by
 have HV := Lib.hid (show headS rs bs = .error (9, 32) by unfold headS; rw [if_neg (by omega), if_neg (by omega), if_pos h0])
 have hlen := hA.2.1
 have hrl := runS_le bs
 have hA1 : BytesAt (w.alloc (.cells #[.int .i64 0, .int .i64 0] 75)) B A bs := hA.below ((Below.refl B w).alloc hB _)
 have HR := Lib.hid (srun_go A cap bs B (w.alloc (.cells #[.int .i64 0, .int .i64 0] 75)) hA1)
 have hS' := Blk.alloc hS (.cells #[.int .i64 0, .int .i64 0] 75)
 have s0 : (w.alloc (.cells #[.int .i64 0, .int .i64 0] 75)).cell? ⟨S, 0, none⟩ = some (.slice Ar rs.length capr) := Blk.cell hS' 0
 have s1 : (w.alloc (.cells #[.int .i64 0, .int .i64 0] 75)).cell? ⟨S, 1, none⟩ = some (.map (some M)) := Blk.cell hS' 1
 have hd : ((rs.length : Int) == 64) = false := by rw [beq_eq_false_iff_ne]; omega
 have hd0 : (((runS bs : Nat) : Int) == 0) = false := by rw [beq_eq_false_iff_ne]; omega
 clear hS hA hA1 h64 hS' hrl
 generalize runS bs = n at *
 go_enter Tryz.func139, Tryz.ntmps139
 go_wp2_with ((with_reducible refine HR.out.mono ?_); rintro e w' ⟨rfl, rfl⟩)
 exact bodyPost_ret (ret_split (c := .string (strOf [])) Tryz.results139 rfl rfl (Blk.new _ _ _)) rfl ⟨by rw [HV.out], (Below.refl _ _).alloc (Nat.le_refl _) _⟩
theorem head_colon (S M B : Nat) (Ar A : Option Addr) (capr cap : Nat) (rs : List RuleS) (bs : List Nat) (w : World) (hS : RdrAt w S Ar rs.length capr M) (hA : BytesAt w B A bs) (hB : B ≤ w.heap.size) (h64 : rs.length < 64) (h0 : runS bs ≠ 0) (h32 : runS bs ≤ 32) (hc : runS bs = bs.length ∨ byteAt bs (runS bs) ≠ 58) :
  Calls Tryz.prog 139 #[.pointer (some ⟨S, 0, none⟩), .slice A bs.length cap] w (HeadOut (headS rs bs) w) := by
 have HV := Lib.hid (show headS rs bs = .error (10, (runS bs : Nat)) by unfold headS; rw [if_neg (by omega), if_neg h0, if_neg (by omega), if_pos hc])
 have hlen := hA.2.1
 have hrl := runS_le bs
 have hA1 : BytesAt (w.alloc (.cells #[.int .i64 0, .int .i64 0] 75)) B A bs := hA.below ((Below.refl B w).alloc hB _)
 have HR := Lib.hid (srun_go A cap bs B (w.alloc (.cells #[.int .i64 0, .int .i64 0] 75)) hA1)
 have hS' := Blk.alloc hS (.cells #[.int .i64 0, .int .i64 0] 75)
 have s0 : (w.alloc (.cells #[.int .i64 0, .int .i64 0] 75)).cell? ⟨S, 0, none⟩ = some (.slice Ar rs.length capr) := Blk.cell hS' 0
 have s1 : (w.alloc (.cells #[.int .i64 0, .int .i64 0] 75)).cell? ⟨S, 1, none⟩ = some (.map (some M)) := Blk.cell hS' 1
 have hd : ((rs.length : Int) == 64) = false := by rw [beq_eq_false_iff_ne]; omega
 have hd0 : (((runS bs : Nat) : Int) == 0) = false := by rw [beq_eq_false_iff_ne]; omega
 by_cases he : runS bs = bs.length
 ·rw [he] at HR hd0 h32 HV
  clear hS hA hA1 h64 hS' hrl hc he h0
  go_enter Tryz.func139, Tryz.ntmps139
  go_wp2_with ((with_reducible refine HR.out.mono ?_); rintro e w' ⟨rfl, rfl⟩)
  exact bodyPost_ret (ret_split (c := .string (strOf [])) Tryz.results139 rfl rfl (Blk.new _ _ _)) rfl ⟨by rw [HV.out], (Below.refl _ _).alloc (Nat.le_refl _) _⟩
 ·have hlt : runS bs < bs.length := by omega
  obtain ⟨b, o, rfl, hcell, hb⟩ := hA1.one hlt
  have h58 : byteAt bs (runS bs) ≠ 58 := by rcases hc with hc | hc; exact absurd hc he; exact hc
  have h58 : (((byteAt bs (runS bs) : Nat) : Int) != 58) = true := by rw [bne_iff_ne]; omega
  have hne : (((runS bs : Nat) : Int) == ((bs.length : Nat) : Int)) = false := by rw [beq_eq_false_iff_ne]; omega
  clear hS hA hA1 h64 hS' hrl hc he h0
  generalize byteAt bs (runS bs) = c at *
  generalize runS bs = n at *
  go_enter Tryz.func139, Tryz.ntmps139
  go_wp2_with ((with_reducible refine HR.out.mono ?_); rintro e w' ⟨rfl, rfl⟩)
  exact bodyPost_ret (ret_split (c := .string (strOf [])) Tryz.results139 rfl rfl (Blk.new _ _ _)) rfl ⟨by rw [HV.out], (Below.refl _ _).alloc (Nat.le_refl _) _⟩
theorem head_name (S M B : Nat) (Ar A : Option Addr) (capr cap : Nat) (rs : List RuleS) (bs : List Nat) (w : World) (hS : RdrAt w S Ar rs.length capr M) (hA : BytesAt w B A bs) (hB : B ≤ w.heap.size) (h64 : rs.length < 64) (hM : NamesAt w M rs) (h0 : runS bs ≠ 0) (h32 : runS bs ≤ 32) (hlt : runS bs < bs.length) (hc : byteAt bs (runS bs) = 58) (hcap : bs.length ≤ cap) :
  Calls Tryz.prog 139 #[.pointer (some ⟨S, 0, none⟩), .slice A bs.length cap] w (HeadOut (headS rs bs) w) := by
 have hv : headS rs bs = if called rs (bs.take (runS bs)) = true then .error (8, 0) else .ok (bs.take (runS bs)) := by unfold headS; rw [if_neg (by omega), if_neg h0, if_neg (by omega), if_neg (fun h => by rcases h with h | h; omega; exact h hc)]; rfl
 have HV := Lib.hid hv
 have hlen := hA.2.1
 have hrl := runS_le bs
 have hA1 : BytesAt (w.alloc (.cells #[.int .i64 0, .int .i64 0] 75)) B A bs := hA.below ((Below.refl B w).alloc hB _)
 have HR := Lib.hid (srun_go A cap bs B (w.alloc (.cells #[.int .i64 0, .int .i64 0] 75)) hA1)
 have hS' := Blk.alloc hS (.cells #[.int .i64 0, .int .i64 0] 75)
 have s0 : (w.alloc (.cells #[.int .i64 0, .int .i64 0] 75)).cell? ⟨S, 0, none⟩ = some (.slice Ar rs.length capr) := Blk.cell hS' 0
 have s1 : (w.alloc (.cells #[.int .i64 0, .int .i64 0] 75)).cell? ⟨S, 1, none⟩ = some (.map (some M)) := Blk.cell hS' 1
 have hd : ((rs.length : Int) == 64) = false := by rw [beq_eq_false_iff_ne]; omega
 have hd0 : (((runS bs : Nat) : Int) == 0) = false := by rw [beq_eq_false_iff_ne]; omega
 have hne : (((runS bs : Nat) : Int) == ((bs.length : Nat) : Int)) = false := by rw [beq_eq_false_iff_ne]; omega
 obtain ⟨b, o, rfl, hbl, hcells⟩ := hA1.2.2 (by omega)
 have hcell := hcells (runS bs) hlt
 have hstr := str_run _ b o (runS bs) cap bs (by omega) hcells
 have hlk := (hM.kept (World.grownBy_alloc w (.cells #[.int .i64 0, .int .i64 0] 75) none) (by simp)).look (nm := bs.take (runS bs)) (fun c hc => hA.1 c (List.mem_of_mem_take hc)) (by simp; omega)
 rw [hc] at hcell
 clear hS hA hA1 h64 hS' hrl hc h0 hv hcells hbl hM
 cases hcd : called rs (bs.take (runS bs))
 all_goals
  rw [hcd] at HV hlk
  clear hcd
  generalize bs.take (runS bs) = nm at *
  generalize runS bs = n at *
  go_enter Tryz.func139, Tryz.ntmps139
  go_wp2_with ((with_reducible refine HR.out.mono ?_); rintro e w' ⟨rfl, rfl⟩)
 ·exact bodyPost_ret (ret_split (c := .string (strOf nm)) Tryz.results139 rfl rfl (Blk.new _ _ _)) rfl ⟨by rw [HV.out]; rfl, (Below.refl _ _).alloc (Nat.le_refl _) _⟩
 ·exact bodyPost_ret (ret_split (c := .string (strOf [])) Tryz.results139 rfl rfl (Blk.new _ _ _)) rfl ⟨by rw [HV.out, if_pos (by trivial)], (Below.refl _ _).alloc (Nat.le_refl _) _⟩
theorem head_go (S M B : Nat) (Ar A : Option Addr) (capr cap : Nat) (rs : List RuleS) (bs : List Nat) (w : World) (hS : RdrAt w S Ar rs.length capr M) (hM : NamesAt w M rs) (hA : BytesAt w B A bs) (hB : B ≤ w.heap.size) (h64 : rs.length ≤ 64) (hcap : bs.length ≤ cap) :
  Calls Tryz.prog 139 #[.pointer (some ⟨S, 0, none⟩), .slice A bs.length cap] w (HeadOut (headS rs bs) w) := by
 have hr := runS_le bs
 by_cases h1 : rs.length = 64
 ·exact head_many S M B Ar A capr cap rs bs w hS hA hB h1
 by_cases h2 : runS bs = 0
 ·exact head_none S M B Ar A capr cap rs bs w hS hA hB (by omega) h2
 by_cases h3 : 32 < runS bs
 ·exact head_long S M B Ar A capr cap rs bs w hS hA hB (by omega) h3
 by_cases h4 : runS bs = bs.length ∨ byteAt bs (runS bs) ≠ 58
 ·exact head_colon S M B Ar A capr cap rs bs w hS hA hB (by omega) h2 (by omega) h4
 ·rw [not_or] at h4
  exact head_name S M B Ar A capr cap rs bs w hS hA hB (by omega) hM h2 (by omega) (by omega) (by simpa using h4.2) hcap
end Go.Proofs.YtfekpkelmliejaaGreatDoor
