/- Texts of the claim. -/
import Derived.Deep.QuietTactic
import Derived.BigQuiet
import Derived.Test.YtfekpkelmliejaaGreatDoorQZ01
import Derived.Test.YtfekpkelmliejaaGreatDoorQRSpansGo
import Derived.Test.YtfekpkelmliejaaGreatDoorQZ03
namespace Go.Proofs.YtfekpkelmliejaaGreatDoor
open Go.RowKit
set_option linter.unusedSimpArgs false
set_option linter.unusedVariables false
set_option maxRecDepth 100000
set_option maxHeartbeats 8000000
theorem spanCells_at : ∀ (l : List (Nat × Nat)) (i a b : Nat), l[i]? = some (a, b) → (spanCells l)[i * 2]? = some (.int .u8 (a : Int)) ∧ (spanCells l)[i * 2 + 1]? = some (.int .u8 (b : Int))
 | [], i, a, b, h => by simp at h
 | q :: l, 0, a, b, h => by
  simp at h; subst h
  exact ⟨rfl, rfl⟩
 | q :: l, i + 1, a, b, h => by
  have ih := spanCells_at l i a b (by simpa using h)
  rw [show (i + 1) * 2 = i * 2 + 1 + 1 by omega]
  exact ih
theorem addr0 (g j : Nat) : (⟨g, 0, none⟩ : Addr).add j = ⟨g, j, none⟩ := by unfold Addr.add; split <;> simp_all
theorem span_row {W : World} {n₀ : Nat} {v : Value} {l : List (Nat × Nat)} (h : W.ownsRow n₀ 257 2 v l.length (spanCells l)) :
  ∃ A cap, v = .slice A l.length cap ∧ ∀ i a b : Nat, l[i]? = some (a, b) → ∃ g, A = some ⟨g, 0, none⟩ ∧ g < W.heap.size ∧ n₀ ≤ g ∧ W.cell? ⟨g, i * 2, none⟩ = some (.int .u8 (a : Int)) ∧ W.cell? ⟨g, i * 2 + 1, none⟩ = some (.int .u8 (b : Int)) := by
 have hc := fun g hg => h.cells (g := g) hg
 have hl := h.lt
 rcases h.2 with ⟨rfl, h0⟩ | ⟨g, cap, cur, rfl, hg, hgb, hn, hcap, hsz, htk⟩
 ·have e : l = [] := by cases l; rfl; simp at h0
  subst e
  exact ⟨none, 0, rfl, by simp⟩
 ·refine ⟨_, cap, rfl, ?_⟩
  intro i a b hi
  obtain ⟨e1, e2⟩ := spanCells_at l i a b hi
  have c1 := hc g rfl _ _ e1
  have c2 := hc g rfl _ _ e2
  rw [addr0] at c1 c2
  exact ⟨g, rfl, (hl g rfl).2, hg, c1, c2⟩
theorem piecesS_take {l : List (Nat × Nat)} {k : Nat} {x : Nat × Nat} (h : l[k]? = some x) : piecesS (l.take (k + 1)) = piecesS (l.take k) ++ pieceS x := by
 rw [List.take_add_one, h]
 simp [piecesS]
theorem cuts_len (p : Nat → Bool) : (cutsOf p).length ≤ 256 := Nat.le_trans (spans_len _) (elems_len p 256)
theorem taken_len (p : Nat → Bool) (k : Nat) : (piecesS ((cutsOf p).take k)).length ≤ 2304 := by
 have h1 := piecesS_len ((cutsOf p).take k)
 have h2 := cuts_len p
 have h3 : ((cutsOf p).take k).length ≤ (cutsOf p).length := List.length_take_le' _ _
 omega
theorem e45 : (⟨#[45]⟩ : ByteArray) = strOf [45] := rfl
theorem ret_s {a b : ByteArray} (h : a = b) : Ending.returned (.string a) = .returned (.string b) := by rw [h]
theorem val_s {a b : ByteArray} (h : a = b) : Value.string a = .string b := by rw [h]
theorem pieces_go (p : Nat → Bool) (w : World) :
  Calls Tryz.prog 249 #[.agg #[.int .u64 (word p 0), .int .u64 (word p 1), .int .u64 (word p 2), .int .u64 (word p 3)]] w fun e W' => e = .returned (.string (strOf (piecesS (cutsOf p)))) ∧ Below w.heap.size w W' := by
 go_enter Tryz.func249, Tryz.ntmps249
 go_wp2_with fail
 refine (rspans_go p _).mono ?_
 rintro e w1 ⟨v, rfl, hrow, hb1⟩
 change w1.ownsRow _ 257 2 v (cutsOf p).length (spanCells (cutsOf p)) at hrow
 have HB1 := Lib.hid (((Below.refl w.heap.size w).alloc (Nat.le_refl _) _).trans (hb1.mono (by simp)))
 have hin := cutsOf_in p
 have hlen := cuts_len p
 have htk := taken_len p
 have Hout : Hid (piecesS ((cutsOf p).take (cutsOf p).length) = piecesS (cutsOf p)) := by show piecesS _ = _; rw [List.take_length]
 generalize hl : cutsOf p = l at *
 have Hl := Lib.hid hl
 clear hl
 obtain ⟨A, cap, rfl, hcells⟩ := span_row hrow
 have Hcells := Lib.hid hcells
 have Hin := Lib.hid hin
 have Htk := Lib.hid htk
 clear hrow hb1 hcells hin htk
 go_wp2
 go_loopw [3, 5] (fun v3 v5 wr => ∃ k : Nat, k ≤ l.length ∧ v5 = .int .i64 (k : Int) ∧ v3 = .string (strOf (piecesS (l.take k))) ∧ Below w1.heap.size w1 wr) (fun _ v5 _ => l.length - (intOf v5).toNat)
 case atStart => exact ⟨0, Nat.zero_le _, rfl, by simp [piecesS]; rfl, Below.refl _ _⟩
 case round =>
  obtain ⟨k, hk, rfl, rfl, hb⟩ := hrel
  by_cases hlt : k < l.length
  ·obtain ⟨⟨a, b⟩, hx⟩ : ∃ x, l[k]? = some x := ⟨_, List.getElem?_eq_getElem hlt⟩
   obtain ⟨g, rfl, hg, _, c0, c1⟩ := Hcells.out k a b hx
   have hab := Hin.out (a, b) (List.mem_of_getElem? hx)
   dsimp only at hab
   have ht := Htk.out k
   have hsz := hb.size
   have hg' : g < wr.heap.size := by omega
   have Hx := Lib.hid (piecesS_take hx)
   have l1 := chrS_len a
   have l2 := chrS_len b
   clear hx
   have q0 : wr.cell? ⟨g, k * 2, none⟩ = some (.int .u8 (a : Int)) := (hb.cell (p := ⟨g, _, none⟩) hg).trans c0
   have q1 : wr.cell? ⟨g, k * 2 + 1, none⟩ = some (.int .u8 (b : Int)) := (hb.cell (p := ⟨g, _, none⟩) hg).trans c1
   clear c0 c1
   have d0 : (a ≤ b ∧ b ≤ a) ∨ (a + 1 ≤ b ∧ b ≤ a + 1) ∨ a + 1 < b := by omega
   rcases d0 with ⟨d1, d2⟩ | ⟨d1, d2⟩ | d1
   ·have W1 := Lib.hid (show IntKind.u8.wrap ((b : Int) - (a : Int)) = 0 by rw [IntWalk.u8_in _ (by omega)]; omega)
    have W2 := Lib.hid (show decide ((a : Int) < (b : Int)) = false by simp; omega)
    have W3 := Lib.hid True.intro
    have Hp := Lib.hid (show pieceS (a, b) = chrS a by rw [show b = a by omega, pieceS_one])
    go_wp2_with fail
    refine (rchr_go _ _ (by omega) (by omega)).mono ?_
    rintro e w2 ⟨rfl, hb2⟩
    have r0 : w2.cell? ⟨g, k * 2, none⟩ = some (.int .u8 (a : Int)) := (hb2.cell (p := ⟨g, _, none⟩) hg').trans q0
    have r1 : w2.cell? ⟨g, k * 2 + 1, none⟩ = some (.int .u8 (b : Int)) := (hb2.cell (p := ⟨g, _, none⟩) hg').trans q1
    rw [Int.toNat_natCast]
    have HB2 := Lib.hid (hb.trans (hb2.mono hb.size))
    have w1' := W1.out
    have w2' := W2.out
    have w3' := W3.out
    clear hb hb2 q0 q1
    go_wp2
    go_quiet (fail)
    go_wp2
    go_quiet (fail)
    go_wp2
    go_light
    go_roundw
    case rel => exact ⟨k + 1, by omega, by go_num, val_s (by rw [Hx.out, Hp.out, strOf_append]), bel_drewN HB2.out _⟩
    case measure => simp [intOf]; omega
   ·have W1 := Lib.hid (show IntKind.u8.wrap ((b : Int) - (a : Int)) = 1 by rw [IntWalk.u8_in _ (by omega)]; omega)
    have W2 := Lib.hid (show decide ((a : Int) < (b : Int)) = true by simp; omega)
    have W3 := Lib.hid True.intro
    have Hp := Lib.hid (show pieceS (a, b) = chrS a ++ chrS b by rw [show b = a + 1 by omega, pieceS_two])
    go_wp2_with fail
    refine (rchr_go _ _ (by omega) (by omega)).mono ?_
    rintro e w2 ⟨rfl, hb2⟩
    have r0 : w2.cell? ⟨g, k * 2, none⟩ = some (.int .u8 (a : Int)) := (hb2.cell (p := ⟨g, _, none⟩) hg').trans q0
    have r1 : w2.cell? ⟨g, k * 2 + 1, none⟩ = some (.int .u8 (b : Int)) := (hb2.cell (p := ⟨g, _, none⟩) hg').trans q1
    rw [Int.toNat_natCast]
    have HB2 := Lib.hid (hb.trans (hb2.mono hb.size))
    have w1' := W1.out
    have w2' := W2.out
    have w3' := W3.out
    clear hb hb2 q0 q1
    go_wp2
    go_quiet (fail)
    go_wp2
    go_quiet (fail)
    go_wp2_with fail
    refine (rchr_go _ _ (by omega) (by omega)).mono ?_
    rintro e w3 ⟨rfl, hb3⟩
    rw [Int.toNat_natCast]
    have HB3 := Lib.hid ((bel_drewN HB2.out _).trans (hb3.mono (bel_drewN HB2.out _).size))
    clear hb3
    go_wp2
    go_light
    go_roundw
    case rel => exact ⟨k + 1, by omega, by go_num, val_s (by rw [Hx.out, Hp.out, strOf_append, strOf_append, List.append_assoc]), HB3.out⟩
    case measure => simp [intOf]; omega
   ·have W1 := Lib.hid (show IntKind.u8.wrap ((b : Int) - (a : Int)) = (b : Int) - (a : Int) by rw [IntWalk.u8_in _ (by omega)])
    have W2 := Lib.hid (show decide ((a : Int) < (b : Int)) = true by simp; omega)
    have W3 := Lib.hid (show decide (1 < (b : Int) - (a : Int)) = true by simp; omega)
    have Hp := Lib.hid (pieceS_more a b d1)
    go_wp2_with fail
    refine (rchr_go _ _ (by omega) (by omega)).mono ?_
    rintro e w2 ⟨rfl, hb2⟩
    have r0 : w2.cell? ⟨g, k * 2, none⟩ = some (.int .u8 (a : Int)) := (hb2.cell (p := ⟨g, _, none⟩) hg').trans q0
    have r1 : w2.cell? ⟨g, k * 2 + 1, none⟩ = some (.int .u8 (b : Int)) := (hb2.cell (p := ⟨g, _, none⟩) hg').trans q1
    rw [Int.toNat_natCast]
    have HB2 := Lib.hid (hb.trans (hb2.mono hb.size))
    have w1' := W1.out
    have w2' := W2.out
    have w3' := W3.out
    clear hb hb2 q0 q1
    go_wp2
    go_quiet (fail)
    go_wp2
    go_quiet (fail)
    go_wp2_with fail
    refine (rchr_go _ _ (by omega) (by omega)).mono ?_
    rintro e w3 ⟨rfl, hb3⟩
    rw [Int.toNat_natCast]
    have HB3 := Lib.hid ((bel_drewN HB2.out _).trans (hb3.mono (bel_drewN HB2.out _).size))
    clear hb3
    go_wp2
    go_light
    go_roundw
    case rel => exact ⟨k + 1, by omega, by go_num, val_s (by rw [Hx.out, Hp.out, e45, strOf_append, strOf_append, strOf_append]; congr 1; simp), HB3.out⟩
    case measure => simp [intOf]; omega
  ·obtain rfl : k = l.length := by omega
   have ht := Htk.out l.length
   go_wp2
   go_light
   go_ret
   exact ⟨by rw [Hl.out, ← Hout.out]; rfl, HB1.out.trans (hb.mono HB1.out.size)⟩
end Go.Proofs.YtfekpkelmliejaaGreatDoor
