/- Texts of the claim. -/
import Derived.Deep.RegionHeldLaw
import Derived.Test.YtofbfafnpdaejaaGreatDoorLMirT
import Derived.Test.YtofbfafnpdaejaaGreatDoorLMirR
import Derived.Test.YtofbfafnpdaejaaGreatDoorLMirW
import Derived.Test.YtofbfafnpdaejaaGreatDoorLNSame
import Derived.Test.YtofbfafnpdaejaaGreatDoorLShowL
import Derived.Test.YtofbfafnpdaejaaGreatDoorLText07
import Derived.Test.YtofbfafnpdaejaaGreatDoorLZ03
namespace Go.Proofs.YtofbfafnpdaejaaGreatDoor
open Go.RowKit
set_option linter.unusedSimpArgs false
set_option linter.unusedVariables false
set_option maxRecDepth 100000
set_option maxHeartbeats 8000000
theorem bytes_strM {w : World} {B : Nat} {A : Option Addr} {bs : List Nat} (cap : Nat) (h : BytesAt w B A bs) : (convert 29 9 (.slice A bs.length cap)).run Tryz.prog w = .ok (.string (strOf bs)) w := by
 by_cases h0 : bs = []
 ·subst h0
  cases A with
  | none =>
   rw [run_convert_bytes_string w _ _ 5 none _ _ Tryz.underlying29 Tryz.underlying5 Tryz.underlying9]
   rfl
  | some a => exact run_str w a cap [] (fun j u hu => by simp at hu)
 ·obtain ⟨b, o, rfl, _, hc⟩ := h.2.2 (List.length_pos_iff.2 h0)
  refine run_str w ⟨b, o, none⟩ cap bs (fun j u hu => ?_)
  have hj : j < bs.length := by
   rcases Nat.lt_or_ge j bs.length with h1 | h1
   ·exact h1
   ·rw [List.getElem?_eq_none (by simpa using h1)] at hu; cases hu
  rw [addr_plusR, hc j hj]
  rw [List.getElem?_map, List.getElem?_eq_getElem hj] at hu
  rw [← byteAt_get hj]
  simpa using hu
def kt18 : Nd := ⟨4, 0, Trees.of [leafN (maskOf (among [97] 1)), ⟨4, 0, Trees.of [leafN (maskOf (among [98] 1)), leafN (maskOf (among [99] 1))], 0, 0⟩], 0, 0⟩
theorem parse18 : parseS [97, 40, 98, 99, 41] = .ok kt18 := by kernel_rfl
theorem text18 : txtV (showT kt18.turn) = .tuple #[.string ⟨#[40, 99, 98, 41, 97]⟩, .int .i64 0] := by kernel_rfl
theorem tree18 (w : World) (n : Nat) (hn : n = w.heap.size) :
  Calls Tryz.prog 61 #[.slice (some ⟨n, 0, none⟩) 5 5] (w.alloc (.cells #[.int .u8 97, .int .u8 40, .int .u8 98, .int .u8 99, .int .u8 41] 5 (5, 6))) (TreeOut (.ok kt18) (w.alloc (.cells #[.int .u8 97, .int .u8 40, .int .u8 98, .int .u8 99, .int .u8 41] 5 (5, 6)))) := by
 have h := text_go07 (some ⟨n, 0, none⟩) 5 [97, 40, 98, 99, 41] _ (bytes_new w n [97, 40, 98, 99, 41] _ (5, 6) hn rfl (by decide) (by decide)) (by decide)
 rw [parse18] at h
 exact h
theorem abc18 (w : World) (n : Nat) (hn : n = w.heap.size) :
  Calls Tryz.prog 13 #[.slice (some ⟨n, 0, none⟩) 3 3] (w.alloc (.cells #[.int .u8 97, .int .u8 98, .int .u8 99] 5 (3, 4))) fun e w' => ∃ A' cap', e = .returned (.slice A' 3 cap') ∧ Below (w.alloc (.cells #[.int .u8 97, .int .u8 98, .int .u8 99] 5 (3, 4))).heap.size (w.alloc (.cells #[.int .u8 97, .int .u8 98, .int .u8 99] 5 (3, 4))) w' ∧ (convert 29 9 (.slice A' 3 cap')).run Tryz.prog w' = .ok (.string ⟨#[99, 98, 97]⟩) w' := by
 have h := word18_go (some ⟨n, 0, none⟩) [97, 98, 99] 3 _ _ (bytes_new w n [97, 98, 99] _ (3, 4) hn rfl (by decide) (by decide))
 refine h.mono ?_
 rintro e w' ⟨A', cap', rfl, hb, hat, _⟩
 exact ⟨A', cap', rfl, hb, bytes_strM cap' hat⟩
theorem knows18_go (w : World) (hT : TabAt 0 Lib.deBruijn64tab w) (hw0 : 0 < w.heap.size) :
  Calls Tryz.prog 16 #[] w fun e w' => e = .returned (.bool true) ∧ Below w.heap.size w w' := by
 have kc := fun (w : World) (C : Array Value) (n c : Nat) => Lib.run_convert_bytes_const (P := Tryz.prog) w 29 5 C n c Tryz.underlying29 Tryz.underlying5
 have HTB := Lib.hid hT
 clear hT
 go_enter Tryz.func16, Tryz.ntmps16
 go_wp2_with fail
 refine (tree18 _ _ rfl).mono ?_
 rintro e w1 ⟨B, cap, rfl, hb1, hc1, ht1⟩
 have HB1 := Lib.hid (((Below.refl w.heap.size w).alloc (Nat.le_refl _) (.cells #[.int .u8 97, .int .u8 40, .int .u8 98, .int .u8 99, .int .u8 41] 5 (5, 6))).trans (hb1.mono (by simp)))
 have hb2 : Below w1.heap.size w1 ((w1.alloc (.cells (ndA kt18 B cap) 28)).alloc (.cells #[.int .i64 0, .int .i64 0] 77)) := ((Below.refl _ _).alloc (Nat.le_refl _) _).alloc (by simp) _
 have HB2 := Lib.hid (HB1.out.trans (hb2.mono HB1.out.size))
 have hS := turn_go kt18 _ B cap _ (by decide) (ht1.below hb2)
 have HS := Lib.hid hS
 clear hb1 ht1 hc1 hb2 hS
 unfold ndV at HS ⊢
 unfold ndA at HS HB2
 dsimp only
 go_wp2_with fail
 refine HS.out.mono ?_
 rintro e w2 ⟨B3, cap3, rfl, hb3, hc3, ht3⟩
 have HB3 := Lib.hid (HB2.out.trans (hb3.mono HB2.out.size))
 have hX := stext_go kt18.turn B3 cap3 w2 (by decide) (ht3.weak (fun b _ h => h)) (TabAt.below HB3.out hw0 HTB.out) (Nat.lt_of_lt_of_le hw0 HB3.out.size)
 rw [text18] at hX
 have HX := Lib.hid hX
 clear hb3 hc3 ht3 hX HS HB2
 unfold ndV at HX
 dsimp only
 go_wp2_with fail
 refine HX.out.mono ?_
 rintro e w3 ⟨rfl, hb4⟩
 have HB4 := Lib.hid (HB3.out.trans (hb4.mono HB3.out.size))
 clear hb4 HX HB3
 dsimp only
 go_wp2_with fail
 refine (abc18 _ _ rfl).mono ?_
 rintro e w4 ⟨A5, cap5, rfl, hb5, hcv⟩
 have HB5 := Lib.hid ((HB4.out.alloc HB4.out.size (.cells #[.int .u8 97, .int .u8 98, .int .u8 99] 5 (3, 4))).trans (hb5.mono (by have := HB4.out.size; simp; omega)))
 clear hb5 kc
 dsimp only
 go_wp2
 go_light
 go_ret
 exact ⟨rfl, HB5.out⟩
end Go.Proofs.YtofbfafnpdaejaaGreatDoor
