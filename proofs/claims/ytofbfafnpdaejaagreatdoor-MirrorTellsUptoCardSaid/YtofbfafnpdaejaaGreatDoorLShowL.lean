/- Texts of the claim. -/
import Derived.Test.YtofbfafnpdaejaaGreatDoorLShowB
import Derived.Test.YtofbfafnpdaejaaGreatDoorLZ03
import Derived.Test.YtofbfafnpdaejaaGreatDoorLParseK
import Derived.Test.YtofbfafnpdaejaaGreatDoorLRLexGo
import Derived.Test.YtofbfafnpdaejaaGreatDoorLRRightX
import Derived.Test.YtofbfafnpdaejaaGreatDoorLZ04
import Derived.Test.YtofbfafnpdaejaaGreatDoorLRJoinW
namespace Go.Proofs.YtofbfafnpdaejaaGreatDoor
open Go.RowKit
set_option linter.unusedSimpArgs false
set_option linter.unusedVariables false
set_option maxRecDepth 100000
set_option maxHeartbeats 8000000
theorem lexs_own {w : World} {base : Nat} {v : Value} {L : List Lex} (h : w.ownsRow base 143 8 v L.length (lexCells L)) : ∃ A cap, v = .slice A L.length cap ∧ L.length ≤ cap ∧ LexsAt w w.heap.size A L := by
 obtain ⟨A, cap, rfl⟩ := own_slice h
 refine ⟨A, cap, rfl, ?_, (lexRow_of h).at⟩
 rcases h.2 with ⟨_, h0⟩ | ⟨g, cap', cur, hv, _, _, hle, _⟩
 ·omega
 ·cases hv; exact hle
def LexsOut (r : Except Int (List Lex)) (w : World) (e : Ending) (w' : World) : Prop := Below w.heap.size w w' ∧ match r with
 | .error k => e = .returned (.tuple #[.slice none 0 0, .int .i64 k])
 | .ok L => ∃ v, e = .returned (.tuple #[v, .int .i64 0]) ∧ w'.ownsRow w.heap.size 143 8 v L.length (lexCells L)
theorem lexsS_no {x : Nd} (h : rightT x = false) : lexsS x = .error 6 := by unfold lexsS; rw [if_pos h]
theorem lexsS_bad {x : Nd} (h : rightT x = true) {e : Wrong} (he : lexemesS x.write = .error e) : lexsS x = .error 4 := by unfold lexsS; rw [if_neg (by rw [h]; decide), he]
theorem lexsS_ok {x z : Nd} (h : rightT x = true) (he : lexemesS x.write = .ok z) : lexsS x = .ok x.write := by unfold lexsS; rw [if_neg (by rw [h]; decide), he]
theorem write_small {x : Nd} (h : rightT x = true) : x.write.length ≤ 24576 := by
 have := x.write_len
 have := rightT_size h
 omega
theorem TreeOut.any (r : Except Wrong Nd) : ∃ (z : Nd) (k q : Int), (k = 0 ↔ ∃ z, r = .ok z) ∧ ∀ w e w', (∀ k' q', r = .error (k', q') → k' ≠ 0) → TreeOut r w e w' → ∃ B cap, e = .returned (.tuple #[ndV z B cap, .agg #[.int .i64 k, .int .i64 q]]) ∧ Below w.heap.size w w' := by
 cases r with
 | error e =>
  obtain ⟨k, q⟩ := e
  by_cases hk : k = 0
  ·refine ⟨⟨0, 0, .nil, 0, 0⟩, 1, q, by simp, fun w e w' hn _ => absurd hk (hn k q rfl)⟩
  ·refine ⟨⟨0, 0, .nil, 0, 0⟩, k, q, by simp [hk], fun w e w' _ h => ⟨none, 0, ?_, h.2⟩⟩
   rw [h.1]
   rfl
 | ok z => exact ⟨z, 0, 0, by simp, fun w e w' _ ⟨B, cap, he, hb, _⟩ => ⟨B, cap, he, hb⟩⟩
theorem slexs_go (x : Nd) (B : Option Addr) (cap : Nat) (w : World) (hs : x.size ≤ 4611686018427387903) (ht : TreesAt w (fun b => b < w.heap.size) x.kids B) :
  Calls Tryz.prog 124 #[ndV x B cap] w (LexsOut (lexsS x) w) := by
 have HR := Lib.hid (tright_any x B cap (w.alloc (.cells #[.int .i64 x.kind, .int .u64 (word x.set.testBit 0), .int .u64 (word x.set.testBit 1), .int .u64 (word x.set.testBit 2), .int .u64 (word x.set.testBit 3), .slice B x.kids.len cap, .int .i64 x.lo, .int .i64 x.hi] 28)) hs ((ht.below ((Below.refl _ _).alloc (Nat.le_refl _) _)).weak (fun b h _ => by simp; omega)))
 have HX := Lib.hid (Blk.new w 28 #[.int .i64 x.kind, .int .u64 (word x.set.testBit 0), .int .u64 (word x.set.testBit 1), .int .u64 (word x.set.testBit 2), .int .u64 (word x.set.testBit 3), .slice B x.kids.len cap, .int .i64 x.lo, .int .i64 x.hi])
 have HB := Lib.hid ((Below.refl w.heap.size w).alloc (Nat.le_refl _) (.cells #[.int .i64 x.kind, .int .u64 (word x.set.testBit 0), .int .u64 (word x.set.testBit 1), .int .u64 (word x.set.testBit 2), .int .u64 (word x.set.testBit 3), .slice B x.kids.len cap, .int .i64 x.lo, .int .i64 x.hi] 28))
 have HT := Lib.hid ht
 unfold ndV at HR ⊢
 clear ht
 go_enter Tryz.func124, Tryz.ntmps124
 go_wp2_with fail
 refine HR.out.mono ?_
 rintro e w2 ⟨rfl, hb2⟩
 have hX := HX.out.below hb2 HX.out.lt
 have HB2 := Lib.hid (HB.out.trans (hb2.mono HB.out.size))
 clear hb2 HR HX HB
 dsimp only
 cases hr : rightT x with
 | false =>
  have HV := Lib.hid (lexsS_no hr)
  clear hr
  go_wp2
  go_light
  go_ret2
  rw [HV.out]
  exact ⟨HB2.out, rfl⟩
 | true =>
  have hsz := HB2.out.size
  have hX3 := hX.alloc (.cells #[.slice none 0 0] 181)
  have hne : ¬ w.heap.size = w2.heap.size := by have := hX.lt; omega
  have hwr : WrAt (w2.alloc (.cells #[.slice none 0 0] 181)) w.heap.size w2.heap.size (fun b => b = w2.heap.size) [] := ⟨fun b hb => by subst hb; exact ⟨hsz, by simp⟩, rfl, .slice none 0 0, Blk.new w2 _ _, World.ownsRow_nil _ _ _ _, fun b h => by simp [Value.ownBlock] at h⟩
  have hW := write_go hr B cap w.heap.size w2.heap.size (fun b => b = w2.heap.size) [] (w2.alloc (.cells #[.slice none 0 0] 181)) ((((HT.out.below HB2.out).below ((Below.refl _ _).alloc (Nat.le_refl _) _))).weak (fun b h _ e => by omega)) hwr (by rw [World.size_alloc]; omega) (by have := write_small hr; simp; omega)
  rw [List.nil_append] at hW
  have HB3 := Lib.hid (HB2.out.alloc hsz (.cells #[.slice none 0 0] 181))
  have HW := Lib.hid hW
  unfold ndV at HW
  have HHR := Lib.hid hr
  have n0 := (hX3).cell 0
  have n1 := (hX3).cell 1
  have n2 := (hX3).cell 2
  have n3 := (hX3).cell 3
  have n4 := (hX3).cell 4
  have n5 := (hX3).cell 5
  have n6 := (hX3).cell 6
  have n7 := (hX3).cell 7
  have hlx := (hX3).lt
  simp only [List.getElem?_toArray, List.getElem?_cons_zero, List.getElem?_cons_succ] at n0 n1 n2 n3 n4 n5 n6 n7
  have HX3 := Lib.hid hX3
  clear hX hX3 hwr hW hr
  go_wp2_with fail
  refine HW.out.mono ?_
  rintro e w4 ⟨rfl, S4, hm4, hv4⟩
  obtain ⟨h0, hg, v, hG, hR4, h3⟩ := hm4
  obtain ⟨A, cv, rfl, hcv, hat⟩ := lexs_own hR4
  have s0 := hG.cell 0
  have hlg := hG.lt
  simp only [List.getElem?_toArray, List.getElem?_cons_zero] at s0
  have HB4 := Lib.hid (HB3.out.trans (hv4.below.mono (by omega)))
  have hkk : ∀ k' q', lexemesS x.write = .error (k', q') → k' ≠ 0 := fun k' q' h => lexemesS_kindK h
  obtain ⟨z, k, q, hk0, hany⟩ := TreeOut.any (lexemesS x.write)
  have HC := Lib.hid (Calls.mono (lexemes_go A cv x.write w4 hat (by have := write_small HHR.out; omega) hcv) (R' := fun e w' => ∃ B cap, e = .returned (.tuple #[ndV z B cap, .agg #[.int .i64 k, .int .i64 q]]) ∧ Below w4.heap.size w4 w') (fun e w' h => hany w4 e w' hkk h))
  have HK0 := Lib.hid hk0
  have HR4 := Lib.hid hR4
  have HGG := Lib.hid hG
  clear h0 h3 hG hR4 hat hany hkk hv4 hk0 HW HX3 n0 n1 n2 n3 n4 n5 n6 n7 hlx
  dsimp only
  go_wp2_with fail
  refine HC.out.mono ?_
  rintro e w5 ⟨B5, cap5, rfl, hb5⟩
  have hG5 := HGG.out.below hb5 HGG.out.lt
  have s5 := hG5.cell 0
  have hlg5 := hG5.lt
  simp only [List.getElem?_toArray, List.getElem?_cons_zero] at s5
  have HB5 := Lib.hid (HB4.out.trans (hb5.mono HB4.out.size))
  have HR5 := Lib.hid (own_below HR4.out hb5)
  clear hb5 hG5 HC s0 hlg HGG
  unfold ndV
  dsimp only
  by_cases hk : k = 0
  ·obtain ⟨u, hu⟩ := HK0.out.1 hk
   have HV := Lib.hid (lexsS_ok HHR.out hu)
   clear hu HK0
   subst hk
   go_wp2
   go_light
   go_ret2
   rw [HV.out]
   exact ⟨(HB5.out.alloc HB5.out.size _).alloc (by have := HB5.out.size; simp; omega) _, _, rfl, (HR5.out.alloc _).alloc _⟩
  ·have HV := Lib.hid (show lexsS x = .error 4 by
    cases h : lexemesS x.write with
    | error e => exact lexsS_bad HHR.out h
    | ok z => exact absurd (HK0.out.2 ⟨z, h⟩) hk)
   have hkn : (k != 0) = true := by simpa using hk
   clear HK0 hk
   go_wp2
   go_light
   go_ret2
   rw [HV.out]
   exact ⟨(HB5.out.alloc HB5.out.size _).alloc (by have := HB5.out.size; simp; omega) _, rfl⟩
def txtV (r : Except Int (List Nat)) : Value := match r with
 | .error k => .tuple #[.string ⟨#[]⟩, .int .i64 k]
 | .ok t => .tuple #[.string (strOf t), .int .i64 0]
theorem showT_err {x : Nd} {k : Int} (h : lexsS x = .error k) : showT x = .error k := by unfold showT; rw [h]
theorem showT_long {x : Nd} {L : List Lex} (h : lexsS x = .ok L) (hl : 65536 < (joinS L).length) : showT x = .error 4 := by unfold showT; rw [h]; exact if_pos hl
theorem showT_ok {x : Nd} {L : List Lex} (h : lexsS x = .ok L) (hl : ¬ 65536 < (joinS L).length) : showT x = .ok (joinS L) := by unfold showT; rw [h]; exact if_neg hl
theorem lexsS_form {x : Nd} {L : List Lex} (h : lexsS x = .ok L) : L.all rightS = true ∧ L.length ≤ 24576 ∧ rightT x = true ∧ L = x.write := by
 unfold lexsS at h
 split at h
 ·cases h
 ·rename_i hr
  have hr' : rightT x = true := by simpa using hr
  split at h
  ·cases h
  ·cases h
   exact ⟨write_right hr', write_small hr', hr', rfl⟩
theorem lexsS_kind {x : Nd} {k : Int} (h : lexsS x = .error k) : k ≠ 0 := by
 unfold lexsS at h
 split at h
 ·cases h; decide
 ·split at h
  ·cases h; decide
  ·cases h
theorem stext_go (x : Nd) (B : Option Addr) (cap : Nat) (w : World) (hs : x.size ≤ 4611686018427387903) (ht : TreesAt w (fun b => b < w.heap.size) x.kids B) (hT : TabAt 0 Lib.deBruijn64tab w) (hw0 : 0 < w.heap.size) :
  Calls Tryz.prog 62 #[ndV x B cap] w fun e w' => e = .returned (txtV (showT x)) ∧ Below w.heap.size w w' := by
 have HR := Lib.hid (slexs_go x B cap (w.alloc (.cells #[.int .i64 x.kind, .int .u64 (word x.set.testBit 0), .int .u64 (word x.set.testBit 1), .int .u64 (word x.set.testBit 2), .int .u64 (word x.set.testBit 3), .slice B x.kids.len cap, .int .i64 x.lo, .int .i64 x.hi] 28)) hs ((ht.below ((Below.refl _ _).alloc (Nat.le_refl _) _)).weak (fun b h _ => by simp; omega)))
 have HB := Lib.hid ((Below.refl w.heap.size w).alloc (Nat.le_refl _) (.cells #[.int .i64 x.kind, .int .u64 (word x.set.testBit 0), .int .u64 (word x.set.testBit 1), .int .u64 (word x.set.testBit 2), .int .u64 (word x.set.testBit 3), .slice B x.kids.len cap, .int .i64 x.lo, .int .i64 x.hi] 28))
 have HTB := Lib.hid hT
 unfold ndV at HR ⊢
 clear ht hT
 go_enter Tryz.func62, Tryz.ntmps62
 go_wp2_with fail
 refine HR.out.mono ?_
 rintro e w2 ⟨hb2, hr⟩
 have HB2 := Lib.hid (HB.out.trans (hb2.mono HB.out.size))
 clear hb2 HR HB
 cases hl : lexsS x with
 | error k =>
  rw [hl] at hr
  simp only at hr
  subst hr
  have HV := Lib.hid (showT_err hl)
  have hkn : (k != 0) = true := by have := lexsS_kind hl; simpa using this
  clear hl
  dsimp only
  go_wp2
  go_light
  go_ret2
  rw [HV.out]
  exact ⟨rfl, HB2.out⟩
 | ok L =>
  rw [hl] at hr
  simp only at hr
  obtain ⟨v, rfl, hR2⟩ := hr
  obtain ⟨A, cv, rfl, hcv, hat⟩ := lexs_own hR2
  have hf := lexsS_form hl
  have hjv := joinV_ok (L := L) (fun k y hy => List.all_eq_true.1 hf.1 y (List.mem_of_getElem? hy))
  have hj := join_go A cv L w2 hat (by omega) (TabAt.below HB2.out hw0 HTB.out) (Nat.lt_of_lt_of_le hw0 HB2.out.size)
  rw [hjv] at hj
  have HJ := Lib.hid hj
  have HL := Lib.hid hl
  clear hR2 hat hf hjv hj hl
  dsimp only
  go_wp2_with fail
  refine HJ.out.mono ?_
  rintro e w3 ⟨rfl, hb3⟩
  have HB3 := Lib.hid (HB2.out.trans (hb3.mono HB2.out.size))
  have hsl := strOf_size (joinS L)
  clear hb3 HJ
  dsimp only
  by_cases hbig : 65536 < (joinS L).length
  ·have HV := Lib.hid (showT_long HL.out hbig)
   have hbi : (65536 : Int) < ((joinS L).length : Int) := by omega
   clear hbig HL
   go_wp2
   go_light
   go_ret2
   rw [HV.out]
   exact ⟨rfl, HB3.out⟩
  ·have HV := Lib.hid (showT_ok HL.out hbig)
   have hbi : ¬ (65536 : Int) < ((joinS L).length : Int) := by omega
   clear hbig HL
   go_wp2
   go_light
   go_ret2
   rw [HV.out]
   exact ⟨rfl, HB3.out⟩
end Go.Proofs.YtofbfafnpdaejaaGreatDoor
