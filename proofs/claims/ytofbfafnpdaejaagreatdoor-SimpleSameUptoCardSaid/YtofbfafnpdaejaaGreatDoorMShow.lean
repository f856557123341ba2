/- Texts of the claim. -/
import Derived.Deep.RegionHeld3
import Derived.Test.YtofbfafnpdaejaaGreatDoorMRShow
import Derived.Test.YtofbfafnpdaejaaGreatDoorMZ03
set_option linter.all false
set_option maxRecDepth 100000
set_option maxHeartbeats 8000000
namespace Go.Proofs.YtofbfafnpdaejaaGreatDoor
open Go.RowKit Go.Shelf
theorem cnt_elems (p : Nat → Bool) : ∀ n, cnt p n = (elems p n).length
 | 0 => rfl
 | n + 1 => by
  rw [elems_succ, List.length_append, ← cnt_elems p n]
  show cnt p n + _ = _
  cases p n <;> rfl
theorem keep2 {w0 w w' : World} {B : Nat} {g : Nat} {a b : Value} (h : w.cell? ⟨g, 0, none⟩ = some a ∧ w.cell? ⟨g, 1, none⟩ = some b ∧ Below B w0 w ∧ g < w.heap.size ∧ B ≤ w.heap.size) (hb : Below w.heap.size w w') :
  w'.cell? ⟨g, 0, none⟩ = some a ∧ w'.cell? ⟨g, 1, none⟩ = some b ∧ Below B w0 w' ∧ g < w'.heap.size ∧ B ≤ w'.heap.size :=
 ⟨(hb.cell (p := ⟨g, 0, none⟩) h.2.2.2.1).trans h.1, (hb.cell (p := ⟨g, 1, none⟩) h.2.2.2.1).trans h.2.1, h.2.2.1.trans (hb.mono h.2.2.2.2), Nat.lt_of_lt_of_le h.2.2.2.1 hb.size, Nat.le_trans h.2.2.2.2 hb.size⟩
theorem show_go (p : Nat → Bool) (w : World) (hT : TabAt 0 Lib.deBruijn64tab w) (hw0 : 0 < w.heap.size) :
  Calls Tryz.prog 209 #[.agg #[.int .u64 (word p 0), .int .u64 (word p 1), .int .u64 (word p 2), .int .u64 (word p 3)]] w fun e W' => e = .returned (.string (strOf (showS p))) ∧ Below w.heap.size w W' := by
 rcases turned_cases p with ⟨h0, ht⟩ | ⟨h0, h1, h2, ht⟩ | ⟨h0, h1, ht⟩ | ⟨h0, h1, h2, ht⟩
 ·have Ht := Lib.hid ht
  have Hp := Lib.hid (showS_turned ht)
  have Hn := Lib.hid h0
  clear ht h0
  go_enter Tryz.func209, Tryz.ntmps209
  go_wp2_with fail
  refine (count_go p _).mono ?_
  rintro e w1 ⟨rfl, hb1⟩
  rw [cnt_elems]
  have HB1 := Lib.hid (((Below.refl w.heap.size w).alloc (Nat.le_refl _) _).trans (hb1.mono (by simp)))
  have hs1 : Blk w1 w.heap.size 25 #[.int .u64 (word p 0), .int .u64 (word p 1), .int .u64 (word p 2), .int .u64 (word p 3)] := (Blk.new w 25 #[.int .u64 (word p 0), .int .u64 (word p 1), .int .u64 (word p 2), .int .u64 (word p 3)]).below hb1 (by simp)
  obtain ⟨s0, s1, s2, s3, f0, f1, f2, f3⟩ := hs1.c4
  have hl := elems_len p 256
  clear hb1
  generalize (elems p 256).length = n at *
  have h0 : n = 0 := Hn.out
  subst h0
  have HT := Lib.hid hT
  have Hs1 := Lib.hid hs1
  clear hT hs1
  go_wp2_with fail
  refine (not_any p _).mono ?_
  rintro e w3 ⟨rfl, hb3⟩
  have HB3 := Lib.hid (HB1.out.trans (hb3.mono HB1.out.size))
  have Hs3 := Lib.hid (Hs1.out.below hb3 Hs1.out.lt)
  clear hb3 s0 s1 s2 s3 f0 f1 f2 f3
  obtain ⟨s0, s1, s2, s3, f0, f1, f2, f3⟩ := Hs3.out.c4
  go_wp2_with fail
  refine (spans_go (fun c => !p c) _ (TabAt.below (below_set4 HB3.out (Nat.le_refl _) _ _ _ _) hw0 HT.out) (by have := HB3.out.size; simp; omega)).mono ?_
  rintro e w2 ⟨v, rfl, hrow, hb2⟩
  have HB2 := Lib.hid ((below_set4 HB3.out (Nat.le_refl _) _ _ _ _).trans (hb2.mono (by have := HB3.out.size; simp; omega)))
  change w2.ownsRow _ 253 2 v (cutsOf (fun c => !p c)).length (spanCells (cutsOf (fun c => !p c))) at hrow
  clear hb2 f0 f1 f2 f3 s0 s1 s2 s3
  have hin := cutsOf_in (fun c => !p c)
  have hlen := cuts_len (fun c => !p c)
  have htk := taken_len (fun c => !p c)
  have Hout : Hid (piecesS ((cutsOf (fun c => !p c)).take (cutsOf (fun c => !p c)).length) = piecesS (cutsOf (fun c => !p c))) := by show piecesS _ = _; rw [List.take_length]
  generalize cutsOf (fun c => !p c) = l at *
  obtain ⟨A, cap, rfl, hcells⟩ := span_row hrow
  have Hcells := Lib.hid hcells
  have Hin := Lib.hid hin
  have Htk := Lib.hid htk
  clear hrow hcells hin htk
  go_wp2
  go_loopw [3, 26] (fun v3 v26 wr => ∃ k : Nat, k ≤ l.length ∧ v26 = .int .i64 (k : Int) ∧ v3 = .string (strOf ([91, 94] ++ piecesS (l.take k))) ∧ Below w2.heap.size w2 wr) (fun _ v26 _ => l.length - (intOf v26).toNat)
  case atStart => exact ⟨0, Nat.zero_le _, rfl, by simp [piecesS]; rfl, Below.refl _ _⟩
  case round =>
   obtain ⟨k, hk, rfl, rfl, hb⟩ := hrel
   by_cases hlt : k < l.length
   ·obtain ⟨⟨a, b⟩, hx⟩ : ∃ x, l[k]? = some x := ⟨_, List.getElem?_eq_getElem hlt⟩
    obtain ⟨g, rfl, hg, _, c0, c1⟩ := Hcells.out k a b hx
    have hab := Hin.out (a, b) (List.mem_of_getElem? hx)
    dsimp only at hab
    have ht := Htk.out k
    have hsz := hb.size
    have hg' : g < wr.heap.size := by omega
    have Hx := Lib.hid (piecesS_take hx)
    have l1 := chrS_len a
    have l2 := chrS_len b
    clear hx
    have q0 : wr.cell? ⟨g, k * 2, none⟩ = some (.int .u8 (a : Int)) := (hb.cell (p := ⟨g, _, none⟩) hg).trans c0
    have q1 : wr.cell? ⟨g, k * 2 + 1, none⟩ = some (.int .u8 (b : Int)) := (hb.cell (p := ⟨g, _, none⟩) hg).trans c1
    clear c0 c1
    go_wp2
    have x2 := (Blk.new wr 253 #[.int .u8 (a : Int), .int .u8 (b : Int)]).c2
    have x3 : Below w2.heap.size w2 (wr.alloc (.cells #[.int .u8 (a : Int), .int .u8 (b : Int)] 253)) := hb.alloc hsz _
    have x4 : wr.heap.size < (wr.alloc (.cells #[.int .u8 (a : Int), .int .u8 (b : Int)] 253)).heap.size := by simp
    obtain ⟨x20, x21, x22, x23⟩ := x2
    generalize wr.alloc (.cells #[.int .u8 (a : Int), .int .u8 (b : Int)] 253) = wx at *
    have x5 := x3.size
    go_region_held3 (fun w' => w'.cell? ⟨wr.heap.size, 0, none⟩ = some (.int .u8 (a : Int)) ∧ w'.cell? ⟨wr.heap.size, 1, none⟩ = some (.int .u8 (b : Int)) ∧ Below w2.heap.size w2 w' ∧ wr.heap.size < w'.heap.size ∧ w2.heap.size ≤ w'.heap.size) (first | exact ⟨x20, x21, x3.drew, x4, x5⟩ | exact keep2 (by assumption) (by assumption))
     (first | (go_at_call 235; refine (chr_go _ _ (by omega) (by omega)).mono ?_; rintro e w' ⟨rfl, hb'⟩))
    rename_i hS
    obtain ⟨r0, r1, hB9, _, _⟩ := hS
    have HB9 := Lib.hid hB9
    clear hB9 q0 q1 x20 x21 x22 x23 x3 hb
    try simp only [Int.toNat_natCast]
    have d0 : (a ≤ b ∧ b ≤ a) ∨ (a + 1 ≤ b ∧ b ≤ a + 1) ∨ a + 1 < b := by omega
    rcases d0 with ⟨d1, d2⟩ | ⟨d1, d2⟩ | d1
    ·have e0 : ((b : Int) - (a : Int) == 0) = true := by simp; omega
     have Hp := Lib.hid (show pieceS (a, b) = chrS a by rw [show b = a by omega, pieceS_one])
     go_wp2
     go_light
     go_roundw
     case rel => exact ⟨k + 1, by omega, by go_num, val_s (by rw [Hx.out, Hp.out]; simp only [strOf_append]; exact congrArg strOf (by simp)), HB9.out⟩
     case measure => simp [intOf]; omega
    ·have e0 : ((b : Int) - (a : Int) == 0) = false := by simp; omega
     have e1 : ((b : Int) - (a : Int) == 1) = true := by simp; omega
     have Hp := Lib.hid (show pieceS (a, b) = chrS a ++ chrS b by rw [show b = a + 1 by omega, pieceS_two])
     go_wp2
     go_light
     go_roundw
     case rel => exact ⟨k + 1, by omega, by go_num, val_s (by rw [Hx.out, Hp.out]; simp only [strOf_append]; exact congrArg strOf (by simp)), HB9.out⟩
     case measure => simp [intOf]; omega
    ·have e0 : ((b : Int) - (a : Int) == 0) = false := by simp; omega
     have e1 : ((b : Int) - (a : Int) == 1) = false := by simp; omega
     have Hp := Lib.hid (pieceS_more a b d1)
     go_wp2
     go_light
     go_roundw
     case rel => exact ⟨k + 1, by omega, by go_num, val_s (by rw [Hx.out, Hp.out]; simp only [e45, strOf_append]; exact congrArg strOf (by simp)), HB9.out⟩
     case measure => simp [intOf]; omega
   ·obtain rfl : k = l.length := by omega
    have ht := Htk.out l.length
    have ht2 := ht
    rw [List.take_length] at ht2
    go_wp2
    go_light
    go_ret
    refine ⟨ret_s ?_, HB2.out.trans (hb.mono HB2.out.size)⟩
    simp only [show (⟨#[93]⟩ : ByteArray) = strOf [93] from rfl, strOf_append]
    rw [Hp.out]
    exact congrArg strOf (by simp)
 ·have Ht := Lib.hid ht
  have Hp := Lib.hid (showS_turned ht)
  clear ht
  go_enter Tryz.func209, Tryz.ntmps209
  go_wp2_with fail
  refine (count_go p _).mono ?_
  rintro e w1 ⟨rfl, hb1⟩
  rw [cnt_elems]
  have HB1 := Lib.hid (((Below.refl w.heap.size w).alloc (Nat.le_refl _) _).trans (hb1.mono (by simp)))
  have hs1 : Blk w1 w.heap.size 25 #[.int .u64 (word p 0), .int .u64 (word p 1), .int .u64 (word p 2), .int .u64 (word p 3)] := (Blk.new w 25 #[.int .u64 (word p 0), .int .u64 (word p 1), .int .u64 (word p 2), .int .u64 (word p 3)]).below hb1 (by simp)
  obtain ⟨s0, s1, s2, s3, f0, f1, f2, f3⟩ := hs1.c4
  have hl := elems_len p 256
  clear hb1
  generalize (elems p 256).length = n at *
  have b0 : ((n : Int) == 0) = false := by simp; omega
  have HT := Lib.hid hT
  have Hs1 := Lib.hid hs1
  clear hT hs1
  go_wp2_with fail
  refine (not_any p _).mono ?_
  rintro e w3 ⟨rfl, hb3⟩
  have HB3 := Lib.hid (HB1.out.trans (hb3.mono HB1.out.size))
  have Hs3 := Lib.hid (Hs1.out.below hb3 Hs1.out.lt)
  clear hb3 s0 s1 s2 s3 f0 f1 f2 f3
  obtain ⟨s0, s1, s2, s3, f0, f1, f2, f3⟩ := Hs3.out.c4
  go_wp2_with fail
  refine (spans_go (fun c => !p c) _ (TabAt.below (below_set4 HB3.out (Nat.le_refl _) _ _ _ _) hw0 HT.out) (by have := HB3.out.size; simp; omega)).mono ?_
  rintro e w2 ⟨v, rfl, hrow, hb2⟩
  have HB2 := Lib.hid ((below_set4 HB3.out (Nat.le_refl _) _ _ _ _).trans (hb2.mono (by have := HB3.out.size; simp; omega)))
  change w2.ownsRow _ 253 2 v (cutsOf (fun c => !p c)).length (spanCells (cutsOf (fun c => !p c))) at hrow
  clear hb2 f0 f1 f2 f3 s0 s1 s2 s3
  have hin := cutsOf_in (fun c => !p c)
  have hlen := cuts_len (fun c => !p c)
  have htk := taken_len (fun c => !p c)
  have Hout : Hid (piecesS ((cutsOf (fun c => !p c)).take (cutsOf (fun c => !p c)).length) = piecesS (cutsOf (fun c => !p c))) := by show piecesS _ = _; rw [List.take_length]
  generalize cutsOf (fun c => !p c) = l at *
  obtain ⟨A, cap, rfl, hcells⟩ := span_row hrow
  have Hcells := Lib.hid hcells
  have Hin := Lib.hid hin
  have Htk := Lib.hid htk
  clear hrow hcells hin htk
  go_wp2
  go_loopw [3, 26] (fun v3 v26 wr => ∃ k : Nat, k ≤ l.length ∧ v26 = .int .i64 (k : Int) ∧ v3 = .string (strOf ([91, 94] ++ piecesS (l.take k))) ∧ Below w2.heap.size w2 wr) (fun _ v26 _ => l.length - (intOf v26).toNat)
  case atStart => exact ⟨0, Nat.zero_le _, rfl, by simp [piecesS]; rfl, Below.refl _ _⟩
  case round =>
   obtain ⟨k, hk, rfl, rfl, hb⟩ := hrel
   by_cases hlt : k < l.length
   ·obtain ⟨⟨a, b⟩, hx⟩ : ∃ x, l[k]? = some x := ⟨_, List.getElem?_eq_getElem hlt⟩
    obtain ⟨g, rfl, hg, _, c0, c1⟩ := Hcells.out k a b hx
    have hab := Hin.out (a, b) (List.mem_of_getElem? hx)
    dsimp only at hab
    have ht := Htk.out k
    have hsz := hb.size
    have hg' : g < wr.heap.size := by omega
    have Hx := Lib.hid (piecesS_take hx)
    have l1 := chrS_len a
    have l2 := chrS_len b
    clear hx
    have q0 : wr.cell? ⟨g, k * 2, none⟩ = some (.int .u8 (a : Int)) := (hb.cell (p := ⟨g, _, none⟩) hg).trans c0
    have q1 : wr.cell? ⟨g, k * 2 + 1, none⟩ = some (.int .u8 (b : Int)) := (hb.cell (p := ⟨g, _, none⟩) hg).trans c1
    clear c0 c1
    go_wp2
    have x2 := (Blk.new wr 253 #[.int .u8 (a : Int), .int .u8 (b : Int)]).c2
    have x3 : Below w2.heap.size w2 (wr.alloc (.cells #[.int .u8 (a : Int), .int .u8 (b : Int)] 253)) := hb.alloc hsz _
    have x4 : wr.heap.size < (wr.alloc (.cells #[.int .u8 (a : Int), .int .u8 (b : Int)] 253)).heap.size := by simp
    obtain ⟨x20, x21, x22, x23⟩ := x2
    generalize wr.alloc (.cells #[.int .u8 (a : Int), .int .u8 (b : Int)] 253) = wx at *
    have x5 := x3.size
    go_region_held3 (fun w' => w'.cell? ⟨wr.heap.size, 0, none⟩ = some (.int .u8 (a : Int)) ∧ w'.cell? ⟨wr.heap.size, 1, none⟩ = some (.int .u8 (b : Int)) ∧ Below w2.heap.size w2 w' ∧ wr.heap.size < w'.heap.size ∧ w2.heap.size ≤ w'.heap.size) (first | exact ⟨x20, x21, x3.drew, x4, x5⟩ | exact keep2 (by assumption) (by assumption))
     (first | (go_at_call 235; refine (chr_go _ _ (by omega) (by omega)).mono ?_; rintro e w' ⟨rfl, hb'⟩))
    rename_i hS
    obtain ⟨r0, r1, hB9, _, _⟩ := hS
    have HB9 := Lib.hid hB9
    clear hB9 q0 q1 x20 x21 x22 x23 x3 hb
    try simp only [Int.toNat_natCast]
    have d0 : (a ≤ b ∧ b ≤ a) ∨ (a + 1 ≤ b ∧ b ≤ a + 1) ∨ a + 1 < b := by omega
    rcases d0 with ⟨d1, d2⟩ | ⟨d1, d2⟩ | d1
    ·have e0 : ((b : Int) - (a : Int) == 0) = true := by simp; omega
     have Hp := Lib.hid (show pieceS (a, b) = chrS a by rw [show b = a by omega, pieceS_one])
     go_wp2
     go_light
     go_roundw
     case rel => exact ⟨k + 1, by omega, by go_num, val_s (by rw [Hx.out, Hp.out]; simp only [strOf_append]; exact congrArg strOf (by simp)), HB9.out⟩
     case measure => simp [intOf]; omega
    ·have e0 : ((b : Int) - (a : Int) == 0) = false := by simp; omega
     have e1 : ((b : Int) - (a : Int) == 1) = true := by simp; omega
     have Hp := Lib.hid (show pieceS (a, b) = chrS a ++ chrS b by rw [show b = a + 1 by omega, pieceS_two])
     go_wp2
     go_light
     go_roundw
     case rel => exact ⟨k + 1, by omega, by go_num, val_s (by rw [Hx.out, Hp.out]; simp only [strOf_append]; exact congrArg strOf (by simp)), HB9.out⟩
     case measure => simp [intOf]; omega
    ·have e0 : ((b : Int) - (a : Int) == 0) = false := by simp; omega
     have e1 : ((b : Int) - (a : Int) == 1) = false := by simp; omega
     have Hp := Lib.hid (pieceS_more a b d1)
     go_wp2
     go_light
     go_roundw
     case rel => exact ⟨k + 1, by omega, by go_num, val_s (by rw [Hx.out, Hp.out]; simp only [e45, strOf_append]; exact congrArg strOf (by simp)), HB9.out⟩
     case measure => simp [intOf]; omega
   ·obtain rfl : k = l.length := by omega
    have ht := Htk.out l.length
    have ht2 := ht
    rw [List.take_length] at ht2
    go_wp2
    go_light
    go_ret
    refine ⟨ret_s ?_, HB2.out.trans (hb.mono HB2.out.size)⟩
    simp only [show (⟨#[93]⟩ : ByteArray) = strOf [93] from rfl, strOf_append]
    rw [Hp.out]
    exact congrArg strOf (by simp)
 ·have Ht := Lib.hid ht
  have Hp := Lib.hid (showS_plain ht)
  clear ht
  go_enter Tryz.func209, Tryz.ntmps209
  go_wp2_with fail
  refine (count_go p _).mono ?_
  rintro e w1 ⟨rfl, hb1⟩
  rw [cnt_elems]
  have HB1 := Lib.hid (((Below.refl w.heap.size w).alloc (Nat.le_refl _) _).trans (hb1.mono (by simp)))
  have hs1 : Blk w1 w.heap.size 25 #[.int .u64 (word p 0), .int .u64 (word p 1), .int .u64 (word p 2), .int .u64 (word p 3)] := (Blk.new w 25 #[.int .u64 (word p 0), .int .u64 (word p 1), .int .u64 (word p 2), .int .u64 (word p 3)]).below hb1 (by simp)
  obtain ⟨s0, s1, s2, s3, f0, f1, f2, f3⟩ := hs1.c4
  have hl := elems_len p 256
  clear hb1
  generalize (elems p 256).length = n at *
  have b0 : ((n : Int) == 0) = false := by simp; omega
  have HT := Lib.hid hT
  clear hT hs1
  go_wp2_with fail
  refine (spans_go p _ (TabAt.below HB1.out hw0 HT.out) (by have := HB1.out.size; omega)).mono ?_
  rintro e w2 ⟨v, rfl, hrow, hb2⟩
  have HB2 := Lib.hid (HB1.out.trans (hb2.mono HB1.out.size))
  change w2.ownsRow _ 253 2 v (cutsOf p).length (spanCells (cutsOf p)) at hrow
  clear hb2 f0 f1 f2 f3 s0 s1 s2 s3
  have hin := cutsOf_in p
  have hlen := cuts_len p
  have htk := taken_len p
  have Hout : Hid (piecesS ((cutsOf p).take (cutsOf p).length) = piecesS (cutsOf p)) := by show piecesS _ = _; rw [List.take_length]
  generalize cutsOf p = l at *
  obtain ⟨A, cap, rfl, hcells⟩ := span_row hrow
  have Hcells := Lib.hid hcells
  have Hin := Lib.hid hin
  have Htk := Lib.hid htk
  clear hrow hcells hin htk
  go_wp2
  go_loopw [3, 26] (fun v3 v26 wr => ∃ k : Nat, k ≤ l.length ∧ v26 = .int .i64 (k : Int) ∧ v3 = .string (strOf ([91] ++ piecesS (l.take k))) ∧ Below w2.heap.size w2 wr) (fun _ v26 _ => l.length - (intOf v26).toNat)
  case atStart => exact ⟨0, Nat.zero_le _, rfl, by simp [piecesS]; rfl, Below.refl _ _⟩
  case round =>
   obtain ⟨k, hk, rfl, rfl, hb⟩ := hrel
   by_cases hlt : k < l.length
   ·obtain ⟨⟨a, b⟩, hx⟩ : ∃ x, l[k]? = some x := ⟨_, List.getElem?_eq_getElem hlt⟩
    obtain ⟨g, rfl, hg, _, c0, c1⟩ := Hcells.out k a b hx
    have hab := Hin.out (a, b) (List.mem_of_getElem? hx)
    dsimp only at hab
    have ht := Htk.out k
    have hsz := hb.size
    have hg' : g < wr.heap.size := by omega
    have Hx := Lib.hid (piecesS_take hx)
    have l1 := chrS_len a
    have l2 := chrS_len b
    clear hx
    have q0 : wr.cell? ⟨g, k * 2, none⟩ = some (.int .u8 (a : Int)) := (hb.cell (p := ⟨g, _, none⟩) hg).trans c0
    have q1 : wr.cell? ⟨g, k * 2 + 1, none⟩ = some (.int .u8 (b : Int)) := (hb.cell (p := ⟨g, _, none⟩) hg).trans c1
    clear c0 c1
    go_wp2
    have x2 := (Blk.new wr 253 #[.int .u8 (a : Int), .int .u8 (b : Int)]).c2
    have x3 : Below w2.heap.size w2 (wr.alloc (.cells #[.int .u8 (a : Int), .int .u8 (b : Int)] 253)) := hb.alloc hsz _
    have x4 : wr.heap.size < (wr.alloc (.cells #[.int .u8 (a : Int), .int .u8 (b : Int)] 253)).heap.size := by simp
    obtain ⟨x20, x21, x22, x23⟩ := x2
    generalize wr.alloc (.cells #[.int .u8 (a : Int), .int .u8 (b : Int)] 253) = wx at *
    have x5 := x3.size
    go_region_held3 (fun w' => w'.cell? ⟨wr.heap.size, 0, none⟩ = some (.int .u8 (a : Int)) ∧ w'.cell? ⟨wr.heap.size, 1, none⟩ = some (.int .u8 (b : Int)) ∧ Below w2.heap.size w2 w' ∧ wr.heap.size < w'.heap.size ∧ w2.heap.size ≤ w'.heap.size) (first | exact ⟨x20, x21, x3.drew, x4, x5⟩ | exact keep2 (by assumption) (by assumption))
     (first | (go_at_call 235; refine (chr_go _ _ (by omega) (by omega)).mono ?_; rintro e w' ⟨rfl, hb'⟩))
    rename_i hS
    obtain ⟨r0, r1, hB9, _, _⟩ := hS
    have HB9 := Lib.hid hB9
    clear hB9 q0 q1 x20 x21 x22 x23 x3 hb
    try simp only [Int.toNat_natCast]
    have d0 : (a ≤ b ∧ b ≤ a) ∨ (a + 1 ≤ b ∧ b ≤ a + 1) ∨ a + 1 < b := by omega
    rcases d0 with ⟨d1, d2⟩ | ⟨d1, d2⟩ | d1
    ·have e0 : ((b : Int) - (a : Int) == 0) = true := by simp; omega
     have Hp := Lib.hid (show pieceS (a, b) = chrS a by rw [show b = a by omega, pieceS_one])
     go_wp2
     go_light
     go_roundw
     case rel => exact ⟨k + 1, by omega, by go_num, val_s (by rw [Hx.out, Hp.out]; simp only [strOf_append]; exact congrArg strOf (by simp)), HB9.out⟩
     case measure => simp [intOf]; omega
    ·have e0 : ((b : Int) - (a : Int) == 0) = false := by simp; omega
     have e1 : ((b : Int) - (a : Int) == 1) = true := by simp; omega
     have Hp := Lib.hid (show pieceS (a, b) = chrS a ++ chrS b by rw [show b = a + 1 by omega, pieceS_two])
     go_wp2
     go_light
     go_roundw
     case rel => exact ⟨k + 1, by omega, by go_num, val_s (by rw [Hx.out, Hp.out]; simp only [strOf_append]; exact congrArg strOf (by simp)), HB9.out⟩
     case measure => simp [intOf]; omega
    ·have e0 : ((b : Int) - (a : Int) == 0) = false := by simp; omega
     have e1 : ((b : Int) - (a : Int) == 1) = false := by simp; omega
     have Hp := Lib.hid (pieceS_more a b d1)
     go_wp2
     go_light
     go_roundw
     case rel => exact ⟨k + 1, by omega, by go_num, val_s (by rw [Hx.out, Hp.out]; simp only [e45, strOf_append]; exact congrArg strOf (by simp)), HB9.out⟩
     case measure => simp [intOf]; omega
   ·obtain rfl : k = l.length := by omega
    have ht := Htk.out l.length
    have ht2 := ht
    rw [List.take_length] at ht2
    go_wp2
    go_light
    go_ret
    refine ⟨ret_s ?_, HB2.out.trans (hb.mono HB2.out.size)⟩
    simp only [show (⟨#[93]⟩ : ByteArray) = strOf [93] from rfl, strOf_append]
    rw [Hp.out]
    exact congrArg strOf (by simp)
 ·have Ht := Lib.hid ht
  have Hp := Lib.hid (showS_plain ht)
  clear ht
  go_enter Tryz.func209, Tryz.ntmps209
  go_wp2_with fail
  refine (count_go p _).mono ?_
  rintro e w1 ⟨rfl, hb1⟩
  rw [cnt_elems]
  have HB1 := Lib.hid (((Below.refl w.heap.size w).alloc (Nat.le_refl _) _).trans (hb1.mono (by simp)))
  have hs1 : Blk w1 w.heap.size 25 #[.int .u64 (word p 0), .int .u64 (word p 1), .int .u64 (word p 2), .int .u64 (word p 3)] := (Blk.new w 25 #[.int .u64 (word p 0), .int .u64 (word p 1), .int .u64 (word p 2), .int .u64 (word p 3)]).below hb1 (by simp)
  obtain ⟨s0, s1, s2, s3, f0, f1, f2, f3⟩ := hs1.c4
  have hl := elems_len p 256
  clear hb1
  generalize (elems p 256).length = n at *
  have b0 : ((n : Int) == 0) = false := by simp; omega
  have HT := Lib.hid hT
  clear hT hs1
  go_wp2_with fail
  refine (spans_go p _ (TabAt.below HB1.out hw0 HT.out) (by have := HB1.out.size; omega)).mono ?_
  rintro e w2 ⟨v, rfl, hrow, hb2⟩
  have HB2 := Lib.hid (HB1.out.trans (hb2.mono HB1.out.size))
  change w2.ownsRow _ 253 2 v (cutsOf p).length (spanCells (cutsOf p)) at hrow
  clear hb2 f0 f1 f2 f3 s0 s1 s2 s3
  have hin := cutsOf_in p
  have hlen := cuts_len p
  have htk := taken_len p
  have Hout : Hid (piecesS ((cutsOf p).take (cutsOf p).length) = piecesS (cutsOf p)) := by show piecesS _ = _; rw [List.take_length]
  generalize cutsOf p = l at *
  obtain ⟨A, cap, rfl, hcells⟩ := span_row hrow
  have Hcells := Lib.hid hcells
  have Hin := Lib.hid hin
  have Htk := Lib.hid htk
  clear hrow hcells hin htk
  go_wp2
  go_loopw [3, 26] (fun v3 v26 wr => ∃ k : Nat, k ≤ l.length ∧ v26 = .int .i64 (k : Int) ∧ v3 = .string (strOf ([91] ++ piecesS (l.take k))) ∧ Below w2.heap.size w2 wr) (fun _ v26 _ => l.length - (intOf v26).toNat)
  case atStart => exact ⟨0, Nat.zero_le _, rfl, by simp [piecesS]; rfl, Below.refl _ _⟩
  case round =>
   obtain ⟨k, hk, rfl, rfl, hb⟩ := hrel
   by_cases hlt : k < l.length
   ·obtain ⟨⟨a, b⟩, hx⟩ : ∃ x, l[k]? = some x := ⟨_, List.getElem?_eq_getElem hlt⟩
    obtain ⟨g, rfl, hg, _, c0, c1⟩ := Hcells.out k a b hx
    have hab := Hin.out (a, b) (List.mem_of_getElem? hx)
    dsimp only at hab
    have ht := Htk.out k
    have hsz := hb.size
    have hg' : g < wr.heap.size := by omega
    have Hx := Lib.hid (piecesS_take hx)
    have l1 := chrS_len a
    have l2 := chrS_len b
    clear hx
    have q0 : wr.cell? ⟨g, k * 2, none⟩ = some (.int .u8 (a : Int)) := (hb.cell (p := ⟨g, _, none⟩) hg).trans c0
    have q1 : wr.cell? ⟨g, k * 2 + 1, none⟩ = some (.int .u8 (b : Int)) := (hb.cell (p := ⟨g, _, none⟩) hg).trans c1
    clear c0 c1
    go_wp2
    have x2 := (Blk.new wr 253 #[.int .u8 (a : Int), .int .u8 (b : Int)]).c2
    have x3 : Below w2.heap.size w2 (wr.alloc (.cells #[.int .u8 (a : Int), .int .u8 (b : Int)] 253)) := hb.alloc hsz _
    have x4 : wr.heap.size < (wr.alloc (.cells #[.int .u8 (a : Int), .int .u8 (b : Int)] 253)).heap.size := by simp
    obtain ⟨x20, x21, x22, x23⟩ := x2
    generalize wr.alloc (.cells #[.int .u8 (a : Int), .int .u8 (b : Int)] 253) = wx at *
    have x5 := x3.size
    go_region_held3 (fun w' => w'.cell? ⟨wr.heap.size, 0, none⟩ = some (.int .u8 (a : Int)) ∧ w'.cell? ⟨wr.heap.size, 1, none⟩ = some (.int .u8 (b : Int)) ∧ Below w2.heap.size w2 w' ∧ wr.heap.size < w'.heap.size ∧ w2.heap.size ≤ w'.heap.size) (first | exact ⟨x20, x21, x3.drew, x4, x5⟩ | exact keep2 (by assumption) (by assumption))
     (first | (go_at_call 235; refine (chr_go _ _ (by omega) (by omega)).mono ?_; rintro e w' ⟨rfl, hb'⟩))
    rename_i hS
    obtain ⟨r0, r1, hB9, _, _⟩ := hS
    have HB9 := Lib.hid hB9
    clear hB9 q0 q1 x20 x21 x22 x23 x3 hb
    try simp only [Int.toNat_natCast]
    have d0 : (a ≤ b ∧ b ≤ a) ∨ (a + 1 ≤ b ∧ b ≤ a + 1) ∨ a + 1 < b := by omega
    rcases d0 with ⟨d1, d2⟩ | ⟨d1, d2⟩ | d1
    ·have e0 : ((b : Int) - (a : Int) == 0) = true := by simp; omega
     have Hp := Lib.hid (show pieceS (a, b) = chrS a by rw [show b = a by omega, pieceS_one])
     go_wp2
     go_light
     go_roundw
     case rel => exact ⟨k + 1, by omega, by go_num, val_s (by rw [Hx.out, Hp.out]; simp only [strOf_append]; exact congrArg strOf (by simp)), HB9.out⟩
     case measure => simp [intOf]; omega
    ·have e0 : ((b : Int) - (a : Int) == 0) = false := by simp; omega
     have e1 : ((b : Int) - (a : Int) == 1) = true := by simp; omega
     have Hp := Lib.hid (show pieceS (a, b) = chrS a ++ chrS b by rw [show b = a + 1 by omega, pieceS_two])
     go_wp2
     go_light
     go_roundw
     case rel => exact ⟨k + 1, by omega, by go_num, val_s (by rw [Hx.out, Hp.out]; simp only [strOf_append]; exact congrArg strOf (by simp)), HB9.out⟩
     case measure => simp [intOf]; omega
    ·have e0 : ((b : Int) - (a : Int) == 0) = false := by simp; omega
     have e1 : ((b : Int) - (a : Int) == 1) = false := by simp; omega
     have Hp := Lib.hid (pieceS_more a b d1)
     go_wp2
     go_light
     go_roundw
     case rel => exact ⟨k + 1, by omega, by go_num, val_s (by rw [Hx.out, Hp.out]; simp only [e45, strOf_append]; exact congrArg strOf (by simp)), HB9.out⟩
     case measure => simp [intOf]; omega
   ·obtain rfl : k = l.length := by omega
    have ht := Htk.out l.length
    have ht2 := ht
    rw [List.take_length] at ht2
    go_wp2
    go_light
    go_ret
    refine ⟨ret_s ?_, HB2.out.trans (hb.mono HB2.out.size)⟩
    simp only [show (⟨#[93]⟩ : ByteArray) = strOf [93] from rfl, strOf_append]
    rw [Hp.out]
    exact congrArg strOf (by simp)
end Go.Proofs.YtofbfafnpdaejaaGreatDoor
