/- Texts of the claim. -/
import Derived.Test.YtfekpkelmliejaaGreatDoorQCloN
namespace Go.Proofs.YtfekpkelmliejaaGreatDoor
open Go.RowKit Go.Maps
set_option linter.unusedSimpArgs false
set_option linter.unusedVariables false
set_option maxRecDepth 100000
set_option maxHeartbeats 8000000
theorem nclosure_go (A : Option Addr) (n cap : Nat) (w : World) : Calls Tryz.prog 29 #[.pointer none, .slice A n cap] w fun e w' => e = .returned (.slice none 0 0) ∧ w = w' := by
 go_enter Tryz.func29, Tryz.ntmps29
 go_wp2
 go_light
 go_ret
 exact ⟨rfl, rfl⟩
theorem nstart_go (w : World) : Calls Tryz.prog 35 #[.pointer none] w fun e w' => e = .returned (.slice none 0 0) ∧ w = w' := by
 go_enter Tryz.func35, Tryz.ntmps35
 go_wp2
 go_light
 go_ret
 exact ⟨rfl, rfl⟩
theorem nstep_go (A : Option Addr) (n cap b : Nat) (w : World) : Calls Tryz.prog 31 #[.pointer none, .slice A n cap, .int .u8 (b : Int)] w fun e w' => e = .returned (.slice none 0 0) ∧ w = w' := by
 go_enter Tryz.func31, Tryz.ntmps31
 go_wp2
 go_light
 go_ret
 exact ⟨rfl, rfl⟩
theorem nlabels_go (A : Option Addr) (n cap : Nat) (w : World) : Calls Tryz.prog 33 #[.pointer none, .slice A n cap] w fun e w' => e = .returned (.slice none 0 0) ∧ w = w' := by
 go_enter Tryz.func33, Tryz.ntmps33
 go_wp2
 go_light
 go_ret
 exact ⟨rfl, rfl⟩
theorem nrun_go (A : Option Addr) (cap : Nat) (bs : List Nat) (w : World) (hb : BytesAt w w.heap.size A bs) (hcap : bs.length ≤ cap) : Calls Tryz.prog 37 #[.pointer none, .slice A bs.length cap] w fun e w' => e = .returned (.slice none 0 0) ∧ w = w' := by
 have HS := Lib.hid (nstart_go w)
 have HY := Lib.hid hb
 have h140 := hb.2.1
 clear hb
 go_enter Tryz.func37, Tryz.ntmps37
 go_wp2_with fail
 refine HS.out.mono ?_
 rintro e w1 ⟨rfl, rfl⟩
 clear HS
 dsimp only
 go_wp2
 go_loop [5, 12] (fun u i => ∃ k : Nat, i = .int .i64 (k : Int) ∧ u = .slice none 0 0 ∧ k ≤ bs.length) (fun _ i => bs.length - (intOf i).toNat)
 case atStart => exact ⟨0, rfl, rfl, Nat.zero_le _⟩
 case round =>
  obtain ⟨k, rfl, rfl, hk⟩ := hrel
  by_cases hlt : k < bs.length
  ·obtain ⟨b, o, rfl, hbl, hcell⟩ := HY.out.2.2 (by omega)
   have hck := hcell k hlt
   have hdl : (k : Int) < (bs.length : Int) := by omega
   have hdc : (k : Int) < (cap : Int) := by omega
   have HN := Lib.hid (nstep_go none 0 0 (byteAt bs k) w)
   clear hcell
   go_wp2_with fail
   refine HN.out.mono ?_
   rintro e w1 ⟨rfl, rfl⟩
   dsimp only
   go_wp2
   go_round
   case rel => exact ⟨k + 1, by go_num, rfl, by omega⟩
   case measure => simp [intOf]; omega
  ·have hdl : ¬ (k : Int) < (bs.length : Int) := by omega
   go_wp2
   go_light
   go_ret
   exact ⟨rfl, rfl⟩
theorem ntell_go (A : Option Addr) (cap : Nat) (bs : List Nat) (w : World) (hb : BytesAt w w.heap.size A bs) (hcap : bs.length ≤ cap) : Calls Tryz.prog 39 #[.pointer none, .slice A bs.length cap] w fun e w' => e = .returned (.int .i64 0) ∧ w = w' := by
 have HR := Lib.hid (nrun_go A cap bs w hb hcap)
 have HL := Lib.hid (nlabels_go none 0 0 w)
 clear hb
 go_enter Tryz.func39, Tryz.ntmps39
 go_wp2_with fail
 refine HR.out.mono ?_
 rintro e w1 ⟨rfl, rfl⟩
 dsimp only
 go_wp2_with fail
 refine HL.out.mono ?_
 rintro e w1 ⟨rfl, rfl⟩
 dsimp only
 go_wp2
 go_light
 go_ret
 exact ⟨rfl, rfl⟩
end Go.Proofs.YtfekpkelmliejaaGreatDoor
