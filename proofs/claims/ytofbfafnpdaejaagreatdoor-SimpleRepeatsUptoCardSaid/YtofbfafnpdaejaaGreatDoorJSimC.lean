/- Texts of the claim. -/
import Derived.Test.YtofbfafnpdaejaaGreatDoorJZ05
set_option linter.all false
set_option maxRecDepth 100000
set_option maxHeartbeats 8000000
namespace Go.Proofs.YtofbfafnpdaejaaGreatDoor
open Go.RowKit
def PredC (n : Nat) (caps : Array Value) (p : Nd → Bool) (w : World) (x : Nd) : Prop := ∀ (C : Option Addr) (capc : Nat) (W : World), Below w.heap.size w W → x.kids.len ≤ capc → TreesAt W (fun b => b < w.heap.size) x.kids C →
 Calls Tryz.prog n (#[ndV x C capc] ++ caps) W fun e w' => e = .returned (.bool (p x)) ∧ Below W.heap.size W w'
def IdxN (b : Bool) (w : World) (e : Ending) (w' : World) : Prop := ∃ v : Int, e = .returned (.int .i64 v) ∧ ((b = false ∧ v = -1) ∨ (b = true ∧ 0 ≤ v)) ∧ Below w.heap.size w w'
theorem idxn_go (F : Trees) (B : Option Addr) (cap : Nat) (w : World) (n : Nat) (caps : Array Value) (p : Nd → Bool) (hl : F.len ≤ 100000000) (ht : TreesAt w (fun b => b < w.heap.size) F B) (hen : ∀ args W, (callFunc n args).run Tryz.prog W = .ok (.enter n args) W) (hby : ∀ x ∈ F.list, PredC n caps p w x) :
  Calls Tryz.prog 134 #[.slice B F.len cap, .func (.func n) #[] caps] w (IdxN (F.list.any p) w) := by
 have HT := Lib.hid ht
 have HBy := Lib.hid hby
 have hFl := Trees.len_list F
 clear ht hby
 go_enter Tryz.func134, Tryz.ntmps134
 go_wp2
 go_loopw [8] (fun i wr => ∃ k : Nat, i = .int .i64 (k : Int) ∧ k ≤ F.len ∧ Hid (∀ j z, j < k → F.list[j]? = some z → p z = false) ∧ Hid (Below w.heap.size w wr)) (fun i _ => F.len - (intOf i).toNat)
 case atStart => exact ⟨0, rfl, Nat.zero_le _, Lib.hid (fun j z hj => by omega), Lib.hid (Below.refl _ _)⟩
 case round =>
  obtain ⟨k, rfl, hk, HR, HB⟩ := hrel
  by_cases hlt : k < F.len
  ·obtain ⟨z, hz⟩ : ∃ z, F.list[k]? = some z := ⟨_, List.getElem?_eq_getElem (by omega)⟩
   obtain ⟨b, o, C, capc, rfl, _, hck, ⟨c0, c1, c2, c3, c4, c5, c6, c7⟩, hkz⟩ := (HT.out.below HB.out).get hz
   have hdl : (k : Int) < (F.len : Int) := by omega
   have hbl := World.block_lt_of_cell? wr _ c0
   have HI := Lib.hid (HBy.out z (List.mem_of_getElem? hz) C capc wr HB.out hck hkz)
   have HZ := Lib.hid hz
   clear hz hkz hck
   unfold ndV at HI
   cases hv : p z with
   | false =>
    rw [hv] at HI
    have HV := Lib.hid hv
    clear hv
    go_wp2_with fail
    refine HI.out.mono ?_
    rintro e w3 ⟨rfl, hb3⟩
    have HB3 := Lib.hid (HB.out.trans (hb3.mono HB.out.size))
    clear HI c0 c1 c2 c3 c4 c5 c6 c7 hb3 HB
    dsimp only
    go_wp2
    go_roundw
    case rel => exact ⟨k + 1, by go_num, by omega, Lib.hid (fun j y hj hy => by
     rcases Nat.lt_or_ge j k with h | h
     ·exact HR.out j y h hy
     ·obtain rfl : j = k := by omega
      rw [HZ.out] at hy
      cases hy
      exact HV.out), HB3⟩
    case measure => simp [intOf]; omega
   | true =>
    rw [hv] at HI
    have HV := Lib.hid (show F.list.any p = true from List.any_eq_true.2 ⟨z, List.mem_of_getElem? HZ.out, hv⟩)
    clear hv
    go_wp2_with fail
    refine HI.out.mono ?_
    rintro e w3 ⟨rfl, hb3⟩
    have HB3 := Lib.hid (HB.out.trans (hb3.mono HB.out.size))
    clear HI c0 c1 c2 c3 c4 c5 c6 c7 hb3 HB
    dsimp only
    go_wp2
    go_light
    go_ret
    exact ⟨k, rfl, .inr ⟨HV.out, by omega⟩, HB3.out⟩
  ·obtain rfl : k = F.len := by omega
   have hdl : ¬ ((F.len : Int) < (F.len : Int)) := by omega
   have HV := Lib.hid (show F.list.any p = false by
    rw [List.any_eq_false]
    intro x hx
    obtain ⟨j, hj⟩ := List.getElem?_of_mem hx
    have := (List.getElem?_eq_some_iff.1 hj).1
    rw [HR.out j x (by omega) hj]
    decide)
   go_wp2
   go_light
   go_ret
   exact ⟨-1, rfl, .inl ⟨HV.out, rfl⟩, HB.out⟩
theorem hasn_go (F : Trees) (B : Option Addr) (cap : Nat) (w : World) (n : Nat) (caps : Array Value) (p : Nd → Bool) (q : Bool) (hq : F.list.any p = q) (hl : F.len ≤ 100000000) (ht : TreesAt w (fun b => b < w.heap.size) F B) (hen : ∀ args W, (callFunc n args).run Tryz.prog W = .ok (.enter n args) W) (hby : ∀ x ∈ F.list, PredC n caps p w x) :
  Calls Tryz.prog 77 #[.slice B F.len cap, .func (.func n) #[] caps] w fun e w' => e = .returned (.bool q) ∧ Below w.heap.size w w' := by
 have hi := idxn_go F B cap w n caps p hl ht hen hby
 rw [hq] at hi
 have HI := Lib.hid hi
 clear ht hby hen hi hq
 go_enter Tryz.func77, Tryz.ntmps77
 go_wp2_with fail
 refine HI.out.mono ?_
 rintro e w3 ⟨v, rfl, hv, hb3⟩
 have HB := Lib.hid hb3
 clear HI hb3
 rcases hv with ⟨rfl, rfl⟩ | ⟨rfl, h2⟩
 ·dsimp only
  go_wp2
  go_light
  go_ret
  exact ⟨rfl, HB.out⟩
 ·have hd : decide ((0 : Int) ≤ v) = true := decide_eq_true h2
  dsimp only
  go_wp2
  go_light
  go_ret
  exact ⟨ret_b (by simp [h2]), HB.out⟩
theorem isnone_go (w : World) (x : Nd) : PredC 78 #[] (isK 1) w x := by
 intro C capc W hW hc ht
 have hal : Below W.heap.size W (W.alloc (.cells (ndA x C capc) 28)) := (Below.refl _ _).alloc (Nat.le_refl _) _
 have p0 : (W.alloc (.cells (ndA x C capc) 28)).cell? ⟨W.heap.size, 0, none⟩ = some (.int .i64 x.kind) := (Blk.new W 28 (ndA x C capc)).cell 0
 have HB := Lib.hid hal
 clear ht hW hal
 unfold ndV
 unfold ndA at *
 have hl : W.heap.size < (W.alloc (.cells #[.int .i64 x.kind, .int .u64 (word x.set.testBit 0), .int .u64 (word x.set.testBit 1), .int .u64 (word x.set.testBit 2), .int .u64 (word x.set.testBit 3), .slice C x.kids.len capc, .int .i64 x.lo, .int .i64 x.hi] 28)).heap.size := by simp
 go_enter Tryz.func78, Tryz.ntmps78
 go_upto_region 1 with fail
 generalize W.alloc (.cells #[.int .i64 x.kind, .int .u64 (word x.set.testBit 0), .int .u64 (word x.set.testBit 1), .int .u64 (word x.set.testBit 2), .int .u64 (word x.set.testBit 3), .slice C x.kids.len capc, .int .i64 x.lo, .int .i64 x.hi] 28) = W1 at *
 go_wp2
 go_light
 go_ret
 exact ⟨ret_b (by unfold isK; rfl), HB.out⟩
theorem enters_go {f : FuncId} {fn : Func} {c : Code} (hf : Tryz.prog.funcs[f]? = some fn) (hn : (fn.name == "runtime.NumGoroutine") = false) (hb : fn.body = some c) (args : Array Value) (W : World) : (callFunc f args).run Tryz.prog W = .ok (.enter f args) W := by
 have h1 : fn.name ≠ "runtime.NumGoroutine" := by simpa using hn
 simp [callFunc, hf, h1, hb]
theorem enter_isNone (args : Array Value) (W : World) : (callFunc 78 args).run Tryz.prog W = .ok (.enter 78 args) W := enters_go Tryz.func78 (by kernel_rfl) rfl args W
end Go.Proofs.YtofbfafnpdaejaaGreatDoor
