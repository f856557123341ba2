/- Texts of the claim. -/
import Derived.Test.YtofbfafnpdaejaaGreatDoorMZ07
import Derived.Test.YtofbfafnpdaejaaGreatDoorMZ06
set_option linter.all false
set_option maxRecDepth 100000
set_option maxHeartbeats 8000000
namespace Go.Proofs.YtofbfafnpdaejaaGreatDoor
open Go.RowKit
def kt12 : Nd := ⟨4, 0, Trees.of [⟨5, 0, Trees.of [leafN (maskOf (among [97] 1)), leafN (maskOf (among [98] 1)), leafN (maskOf (among [97] 1))], 0, 0⟩, ⟨7, 0, Trees.of [⟨4, 0, Trees.of [⟨2, 0, .nil, 0, 0⟩, ⟨6, 0, Trees.of [leafN (maskOf (among [99] 1))], 0, 0⟩], 0, 0⟩], 0, 0⟩], 0, 0⟩
def ks12 : Nd := ⟨4, 0, Trees.of [leafN (maskOf (among [97] 1) ||| maskOf (among [98] 1) ||| maskOf (among [97] 1)), ⟨6, 0, Trees.of [leafN (maskOf (among [99] 1))], 0, 0⟩], 0, 0⟩
theorem parse12 : parseS [40, 97, 124, 98, 124, 97, 41, 40, 40, 41, 99, 42, 41, 43] = .ok kt12 := by kernel_rfl
theorem sim12 : kt12.sim = ks12 := by kernel_rfl
theorem text12 : txtV (showT ks12) = .tuple #[.string ⟨#[91, 97, 98, 93, 99, 42]⟩, .int .i64 0] := by kernel_rfl
theorem right12 : rightT kt12 = true := by kernel_rfl
theorem fit12 : FitT kt12 := by
 have h : (kt12.nodes.all fun y => decide (y.set < 2 ^ 256)) = true := by kernel_rfl
 exact fun y hy => of_decide_eq_true (List.all_eq_true.1 h y hy)
theorem tree12 (w : World) (n : Nat) (hn : n = w.heap.size) :
  Calls Tryz.prog 61 #[.slice (some ⟨n, 0, none⟩) 14 14] (w.alloc (.cells #[.int .u8 40, .int .u8 97, .int .u8 124, .int .u8 98, .int .u8 124, .int .u8 97, .int .u8 41, .int .u8 40, .int .u8 40, .int .u8 41, .int .u8 99, .int .u8 42, .int .u8 41, .int .u8 43] 5 (14, 15))) (TreeOut (.ok kt12) (w.alloc (.cells #[.int .u8 40, .int .u8 97, .int .u8 124, .int .u8 98, .int .u8 124, .int .u8 97, .int .u8 41, .int .u8 40, .int .u8 40, .int .u8 41, .int .u8 99, .int .u8 42, .int .u8 41, .int .u8 43] 5 (14, 15)))) := by
 have h := text_go07 (some ⟨n, 0, none⟩) 14 [40, 97, 124, 98, 124, 97, 41, 40, 40, 41, 99, 42, 41, 43] _ (bytes_new w n [40, 97, 124, 98, 124, 97, 41, 40, 40, 41, 99, 42, 41, 43] _ (14, 15) hn rfl (by decide) (by decide)) (by decide)
 rw [parse12] at h
 exact h
theorem knows12_go (w : World) (hT : TabAt 0 Lib.deBruijn64tab w) (hw0 : 0 < w.heap.size) :
  Calls Tryz.prog 26 #[] w fun e w' => e = .returned (.bool true) ∧ Below w.heap.size w w' := by
 have kc := fun (w : World) (C : Array Value) (n c : Nat) => Lib.run_convert_bytes_const (P := Tryz.prog) w 29 5 C n c Tryz.underlying29 Tryz.underlying5
 have HTB := Lib.hid hT
 clear hT
 go_enter Tryz.func26, Tryz.ntmps26
 go_wp2_with fail
 refine (tree12 _ _ rfl).mono ?_
 rintro e w1 ⟨B, cap, rfl, hb1, hc1, ht1⟩
 have HB1 := Lib.hid (((Below.refl w.heap.size w).alloc (Nat.le_refl _) (.cells #[.int .u8 40, .int .u8 97, .int .u8 124, .int .u8 98, .int .u8 124, .int .u8 97, .int .u8 41, .int .u8 40, .int .u8 40, .int .u8 41, .int .u8 99, .int .u8 42, .int .u8 41, .int .u8 43] 5 (14, 15))).trans (hb1.mono (by simp)))
 have hb2 : Below w1.heap.size w1 ((w1.alloc (.cells (ndA kt12 B cap) 28)).alloc (.cells #[.int .i64 0, .int .i64 0] 77)) := ((Below.refl _ _).alloc (Nat.le_refl _) _).alloc (by simp) _
 have HB2 := Lib.hid (HB1.out.trans (hb2.mono HB1.out.size))
 have hS := sOf_go kt12 B cap _ (by decide) fit12 hc1 ((ht1.below hb2).keep (fun _ _ _ _ => rfl) (fun b _ h => h))
 have HS := Lib.hid hS
 clear hb1 ht1 hb2 hS
 unfold ndV at HS ⊢
 unfold ndA at HS HB2
 dsimp only
 go_wp2_with fail
 refine HS.out.mono ?_
 rintro e w2 ⟨hb3, ⟨hr, _⟩ | ⟨_, B3, cap3, rfl, hc3, ht3⟩⟩
 ·rw [right12] at hr
  cases hr
 rw [sim12] at hc3 ht3 ⊢
 have HB3 := Lib.hid (HB2.out.trans (hb3.mono HB2.out.size))
 have hbA : Below w2.heap.size w2 (w2.alloc (.cells (ndA ks12 B3 cap3) 28)) := (Below.refl _ _).alloc (Nat.le_refl _) _
 have HBA := Lib.hid (HB3.out.trans (hbA.mono HB3.out.size))
 have hX := stext_go ks12 B3 cap3 _ (by decide) ((ht3.below hbA).keep (fun _ _ _ _ => rfl) (fun b _ h => h)) (TabAt.below HBA.out hw0 HTB.out) (Nat.lt_of_lt_of_le hw0 HBA.out.size)
 rw [text12] at hX
 have HX := Lib.hid hX
 clear hb3 hc3 ht3 hX HS HB2 hbA
 unfold ndV at HX ⊢
 unfold ndA at HX HBA
 dsimp only
 go_wp2_with fail
 refine HX.out.mono ?_
 rintro e w3 ⟨rfl, hb4⟩
 have HB4 := Lib.hid (HBA.out.trans (hb4.mono HBA.out.size))
 clear hb4 HX HB3 HBA kc
 dsimp only
 go_wp2
 go_light
 go_ret
 exact ⟨rfl, HB4.out⟩
end Go.Proofs.YtofbfafnpdaejaaGreatDoor
