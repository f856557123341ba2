/- Texts of the claim. -/
import Derived.Test.YtofbfafnpdaejaaGreatDoorJSimC
import Derived.Test.YtofbfafnpdaejaaGreatDoorJSimE
set_option linter.all false
set_option maxRecDepth 100000
set_option maxHeartbeats 8000000
namespace Go.Proofs.YtofbfafnpdaejaaGreatDoor
open Go.RowKit
theorem own_put {w : World} {base n cap g size o : Nat} {e : TypeId} {xs : List Value} (h : w.ownsRow base e size (.slice (some ⟨g, 0, none⟩) n cap) n xs) (u : Value) : (w.setCell ⟨g, o, none⟩ u).ownsRow base e size (.slice (some ⟨g, 0, none⟩) n cap) n (xs.set o u) := by
 obtain ⟨h1, h2 | ⟨g', cap', cur, e1, hb, hg, hn, hm, hs, ht⟩⟩ := h
 ·cases h2.1
 ·cases e1
  refine ⟨by rw [List.length_set]; exact h1, .inr ⟨g, cap, cur.setIfInBounds o u, rfl, hb, heap_setCell_same w g o cur e u hg, hn, hm, by rw [Array.size_setIfInBounds]; exact hs, ?_⟩⟩
  rw [Array.toList_setIfInBounds, List.take_set, ht]
def setW (y : Nd) (s : Nat) : Nd := ⟨y.kind, s, y.kids, y.lo, y.hi⟩
abbrev wV (s j : Nat) : Value := .int .u64 ((word s.testBit j : Nat) : Int)
theorem set_shift (z : Nd) (B : Option Addr) (cap : Nat) (rest : List Value) (i j : Nat) (v : Value) : (ndCell z B cap ++ rest).set ((i + 1) * 8 + j) v = ndCell z B cap ++ rest.set (i * 8 + j) v := by
 rw [List.set_append_right _ _ (by rw [ndCell_len]; omega), ndCell_len, show (i + 1) * 8 + j - 8 = i * 8 + j by omega]
theorem CellsAre.setw {w : World} {P : Nat → Prop} {f : Nd → Nd} {s : Nat} : ∀ {l : List Nd} {cs : List Value} {i : Nat} {y : Nd}, CellsAre w P l cs → l[i]? = some y → f y = setW y s →
  CellsAre w P (l.modify i f) ((((cs.set (i * 8 + 1) (wV s 0)).set (i * 8 + 2) (wV s 1)).set (i * 8 + 3) (wV s 2)).set (i * 8 + 4) (wV s 3))
 | [], cs, i, y, _, hy, _ => by simp at hy
 | z :: l, cs, 0, y, ⟨B, cap, rest, hcs, hc, ht, hr⟩, hy, hf => by
  simp at hy
  subst hy
  rw [List.modify_zero_cons, hf]
  exact ⟨B, cap, rest, by rw [hcs]; rfl, hc, ht, hr⟩
 | z :: l, cs, i + 1, y, ⟨B, cap, rest, hcs, hc, ht, hr⟩, hy, hf => by
  rw [List.modify_succ_cons]
  refine ⟨B, cap, _, ?_, hc, ht, CellsAre.setw (i := i) hr (by simpa using hy) hf⟩
  rw [hcs, set_shift, set_shift, set_shift, set_shift]
theorem ORow.put {n0 : Nat} {w wr : World} {acc : List Nd} {g cap i : Nat} {y : Nd} {f : Nd → Nd} {s : Nat} (h : ORow n0 w acc (.slice (some ⟨g, 0, none⟩) acc.length cap) wr) (hy : acc[i]? = some y) (hf : f y = setW y s) :
  ORow n0 w (acc.modify i f) (.slice (some ⟨g, 0, none⟩) acc.length cap) ((((wr.setCell ⟨g, i * 8 + 1, none⟩ (wV s 0)).setCell ⟨g, i * 8 + 2, none⟩ (wV s 1)).setCell ⟨g, i * 8 + 3, none⟩ (wV s 2)).setCell ⟨g, i * 8 + 4, none⟩ (wV s 3)) := by
 have hl := h.own g rfl
 obtain ⟨⟨cs, hr, hc⟩, h3, h4⟩ := h
 refine ⟨⟨_, ?_, CellsAre.keep ?_ (fun b hb _ => hb) (CellsAre.setw hc hy hf)⟩, ?_, ?_⟩
 ·rw [List.length_modify]
  exact own_put (own_put (own_put (own_put hr _) _) _) _
 ·intro b o hb hbl
  have hne : b ≠ g := fun e => hb (by rw [e]; rfl)
  refine World.cell?_of_block ?_
  rw [Below.heap_setCell _ _ _ _ hne, Below.heap_setCell _ _ _ _ hne, Below.heap_setCell _ _ _ _ hne, Below.heap_setCell _ _ _ _ hne]
 ·exact (((h3.setCell (p := ⟨g, i * 8 + 1, none⟩) hl.1 _).setCell (p := ⟨g, i * 8 + 2, none⟩) hl.1 _).setCell (p := ⟨g, i * 8 + 3, none⟩) hl.1 _).setCell (p := ⟨g, i * 8 + 4, none⟩) hl.1 _
 ·simpa using h4
theorem alt1_go (w : World) (x y : Nd) (g : Nat) (Cx : Option Addr) (cx : Nat) (hx : x.size ≤ 100000000) (hy : y.size ≤ 100000000) (fx : FitT x) (fy : FitT y) (hB : Blk w g 28 (ndA x Cx cx)) (htx : TreesAt w (fun b => b < w.heap.size) x.kids Cx) : PredC 84 #[.pointer (some ⟨g, 0, none⟩)] (sameN x) w y := by
 intro C capc W hW hc ht
 have hal : Below W.heap.size W (W.alloc (.cells (ndA y C capc) 28)) := (Below.refl _ _).alloc (Nat.le_refl _) _
 have hX := (hB.below hW hB.lt).below (hal.mono (Nat.le_refl _)) (by have := hB.lt; have := hW.size; omega)
 have HY := Lib.hid (Blk.new W 28 (ndA y C capc))
 have HS := Lib.hid (tsamed_go x y _ _ Cx C cx capc (W.alloc (.cells (ndA y C capc) 28)) hx hy fx fy ((htx.below hW).below hal) (ht.below hal))
 have HB := Lib.hid hal
 have HX := Lib.hid hX
 clear ht htx hal hX hB hW
 unfold ndV at *
 unfold ndA at *
 obtain ⟨p0, p1, p2, p3, p4, p5, p6, p7⟩ : _ ∧ _ ∧ _ ∧ _ ∧ _ ∧ _ ∧ _ ∧ _ := ⟨HX.out.cell 0, HX.out.cell 1, HX.out.cell 2, HX.out.cell 3, HX.out.cell 4, HX.out.cell 5, HX.out.cell 6, HX.out.cell 7⟩
 obtain ⟨q0, q1, q2, q3, q4, q5, q6, q7⟩ : _ ∧ _ ∧ _ ∧ _ ∧ _ ∧ _ ∧ _ ∧ _ := ⟨HY.out.cell 0, HY.out.cell 1, HY.out.cell 2, HY.out.cell 3, HY.out.cell 4, HY.out.cell 5, HY.out.cell 6, HY.out.cell 7⟩
 simp only [List.getElem?_toArray, List.getElem?_cons_zero, List.getElem?_cons_succ] at p0 p1 p2 p3 p4 p5 p6 p7 q0 q1 q2 q3 q4 q5 q6 q7
 have pl := HX.out.lt
 have ql := HY.out.lt
 generalize sameN x y = v at *
 go_enter Tryz.func84, Tryz.ntmps84
 go_upto_region 1 with fail
 generalize W.alloc (.cells #[.int .i64 y.kind, .int .u64 (word y.set.testBit 0), .int .u64 (word y.set.testBit 1), .int .u64 (word y.set.testBit 2), .int .u64 (word y.set.testBit 3), .slice C y.kids.len capc, .int .i64 y.lo, .int .i64 y.hi] 28) = W1 at *
 go_wp2_with fail
 refine HS.out.mono ?_
 rintro e w3 ⟨rfl, hb3⟩
 have HB3 := Lib.hid (HB.out.trans (hb3.mono HB.out.size))
 clear hb3 HS
 dsimp only
 go_wp2
 go_light
 go_ret
 exact ⟨rfl, HB3.out⟩
theorem enter_alt1 (args : Array Value) (W : World) : (callFunc 84 args).run Tryz.prog W = .ok (.enter 84 args) W := enters_go Tryz.func84 (by kernel_rfl) rfl args W
end Go.Proofs.YtofbfafnpdaejaaGreatDoor
