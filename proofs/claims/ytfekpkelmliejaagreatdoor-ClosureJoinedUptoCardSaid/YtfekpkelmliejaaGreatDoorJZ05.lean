/- Texts of the claim. -/
import Derived.Test.YtfekpkelmliejaaGreatDoorJZ04
import Derived.Test.YtfekpkelmliejaaGreatDoorJZ03
namespace Go.Proofs.YtfekpkelmliejaaGreatDoor
open Go.RowKit Go.Maps
set_option linter.unusedSimpArgs false
set_option linter.unusedVariables false
set_option maxRecDepth 100000
set_option maxHeartbeats 8000000
theorem low63b (n : Nat) (h : n < 256) : bits .and .u8 (n : Int) 63 = ((n : Int) % 64) := by
 have h63 : (BitVec.ofInt 8 63).toNat = 2 ^ 6 - 1 := by decide
 have key : (BitVec.ofInt 8 (n : Int) &&& BitVec.ofInt 8 63).toNat = ((n : Int) % ((2 ^ 8 : Nat) : Int)).toNat % 2 ^ 6 := by
  rw [BitVec.toNat_and, BitVec.toNat_ofInt, h63, Nat.and_two_pow_sub_one_eq_mod]
 show IntKind.u8.wrap ((BitVec.ofInt 8 (n : Int) &&& BitVec.ofInt 8 63).toNat : Nat) = (n : Int) % 64
 rw [key, IntKind.wrap_u8]
 omega
theorem shas_any (p : Nat → Bool) (c : Nat) (w : World) (h1 : c < 256) :
  Calls Tryz.prog 81 #[.agg #[.int .u64 (word p 0), .int .u64 (word p 1), .int .u64 (word p 2), .int .u64 (word p 3)], .int .u8 (c : Int)] w fun e w' => e = .returned (.bool (p c)) ∧ Below w.heap.size w w' := by
 have h63 := low63b c h1
 have hm0 : 0 ≤ (c : Int) % 64 := by omega
 have hm1 : (c : Int) % 64 < 64 := by omega
 have h0 : (0 : Int) ≤ (c : Int) := by omega
 obtain hq | hq | hq | hq : (c : Int) / 64 = 0 ∨ (c : Int) / 64 = 1 ∨ (c : Int) / 64 = 2 ∨ (c : Int) / 64 = 3 := by omega
 ·have hB := has_bit p (c : Int) 0 h0 hq
  rw [Int.toNat_natCast] at hB
  go_enter Tryz.func81, Tryz.ntmps81
  go_wp2
  go_light
  go_ret
  exact ⟨ret_b hB, (Below.refl _ _).alloc (Nat.le_refl _) _⟩
 ·have hB := has_bit p (c : Int) 1 h0 hq
  rw [Int.toNat_natCast] at hB
  go_enter Tryz.func81, Tryz.ntmps81
  go_wp2
  go_light
  go_ret
  exact ⟨ret_b hB, (Below.refl _ _).alloc (Nat.le_refl _) _⟩
 ·have hB := has_bit p (c : Int) 2 h0 hq
  rw [Int.toNat_natCast] at hB
  go_enter Tryz.func81, Tryz.ntmps81
  go_wp2
  go_light
  go_ret
  exact ⟨ret_b hB, (Below.refl _ _).alloc (Nat.le_refl _) _⟩
 ·have hB := has_bit p (c : Int) 3 h0 hq
  rw [Int.toNat_natCast] at hB
  go_enter Tryz.func81, Tryz.ntmps81
  go_wp2
  go_light
  go_ret
  exact ⟨ret_b hB, (Below.refl _ _).alloc (Nat.le_refl _) _⟩
def capK (k : Nat) : Nat := k * 1048576
theorem capK_succ (k : Nat) : capK (k + 1) = capK k + 1048576 := Nat.succ_mul k 1048576
theorem capK_le {k : Nat} (h : k ≤ 2097152) : capK k ≤ 2200000000000 := by unfold capK; omega
theorem own_list {w : World} {base : Nat} {v : Value} {R : List Int} (h : w.ownsRow base 3 1 v R.length (intsC R)) : ∃ A c, v = .slice A R.length c ∧ IntsAt w A R ∧ R.length ≤ c := by
 obtain ⟨A', c, e⟩ := own_slice h
 refine ⟨A', c, e, ?_, ?_⟩
 ·rw [e] at h
  exact own_intsC h
 ·rcases Nat.eq_zero_or_pos R.length with h0 | h0
  ·omega
  ·obtain ⟨_, c2, e2, _, _, h3⟩ := own_form_capC h h0
   rw [e] at e2
   cases e2
   exact h3
theorem step_more {N : NfaV} {l : List Int} {b k : Nat} {s : Int} {O T : List Int} (hs : l[k]? = some s)
  (hO : ∀ t, t ∈ O ↔ ∃ (j : Nat) (f : Int) (p : Int × Nat × Int), j < k ∧ l[j]? = some f ∧ p ∈ N.edges ∧ p.1 = f ∧ p.2.1.testBit b = true ∧ p.2.2 = t)
  (hT : ∀ t, t ∈ T ↔ t ∈ O ∨ ∃ (m : Nat) (p : Int × Nat × Int), m < (edgesOf N s).length ∧ (edgesOf N s)[m]? = some p ∧ p.2.1.testBit b = true ∧ p.2.2 = t) :
  ∀ t, t ∈ T ↔ ∃ (j : Nat) (f : Int) (p : Int × Nat × Int), j < k + 1 ∧ l[j]? = some f ∧ p ∈ N.edges ∧ p.1 = f ∧ p.2.1.testBit b = true ∧ p.2.2 = t := by
 intro t
 rw [hT t, hO t]
 constructor
 ·rintro (⟨j, f, p, h1, h2⟩ | ⟨m, p, _, h2, h3⟩)
  ·exact ⟨j, f, p, by omega, h2⟩
  ·have h4 := edgesOf_mem.1 (List.mem_of_getElem? h2)
   exact ⟨k, s, p, by omega, hs, h4.1, h4.2, h3⟩
 ·rintro ⟨j, f, p, h1, h2, h3, h4, h5⟩
  rcases Nat.lt_or_ge j k with h | h
  ·exact .inl ⟨j, f, p, h, h2, h3, h4, h5⟩
  ·obtain rfl : j = k := by omega
   rw [hs] at h2
   cases h2
   obtain ⟨m, hm, e⟩ := List.mem_iff_getElem.1 (edgesOf_mem.2 ⟨h3, h4⟩)
   exact .inr ⟨m, p, hm, by rw [List.getElem?_eq_getElem hm, e], h5⟩
theorem mstep_go {N : NfaV} (hC : ClosC N) : StepC N := by
 intro g lm em A3 k3 w hA A cap l b hl hlen hcap hb
 have HA := Lib.hid hA
 have HL := Lib.hid hl
 have HC := Lib.hid hC
 clear hA hl hC
 go_enter Tryz.func31, Tryz.ntmps31
 go_wp2
 go_loopw [7, 16] (fun u i wr => ∃ (k : Nat) (O : List Int), i = .int .i64 (k : Int) ∧ k ≤ l.length ∧ Hid (∀ s, s ∈ O ↔ ∃ (j : Nat) (f : Int) (p : Int × Nat × Int), j < k ∧ l[j]? = some f ∧ p ∈ N.edges ∧ p.1 = f ∧ p.2.1.testBit b = true ∧ p.2.2 = s) ∧ O.length ≤ capK k ∧ Hid (wr.ownsRow w.heap.size 3 1 u O.length (intsC O)) ∧ Hid (Below w.heap.size w wr)) (fun _ i _ => l.length - (intOf i).toNat)
 case atStart => exact ⟨0, [], rfl, Nat.zero_le _, Lib.hid (fun s => ⟨fun h => (by simp at h), fun ⟨j, _, _, h, _⟩ => (by omega)⟩), Nat.zero_le _, Lib.hid (World.ownsRow_nil _ _ _ _), Lib.hid (Below.refl _ _)⟩
 case round =>
  obtain ⟨k, O, rfl, hk, HK, hOl, HR, HW⟩ := hrel
  by_cases hlt : k < l.length
  ·obtain ⟨s, hs⟩ : ∃ s, l[k]? = some s := ⟨_, List.getElem?_eq_getElem hlt⟩
   obtain ⟨b0, o0, rfl, hc⟩ := (HL.out.below HW.out) k s hs
   have hdl : (k : Int) < (l.length : Int) := by omega
   have hdc : (k : Int) < (cap : Int) := by omega
   have HA2 := Lib.hid (HA.out.below HW.out)
   obtain ⟨A4, c4, hlk0, hE, hEc⟩ := HA.out.edges s
   have hlk := hlk0 wr HW.out
   have HE := Lib.hid hE
   have HS := Lib.hid hs
   have x3 := HA2.out.box.cell 3
   simp only [List.getElem?_toArray, List.getElem?_cons_zero, List.getElem?_cons_succ] at x3
   have hlx := HA2.out.box.lt
   have hel : (edgesOf N s).length ≤ 1048576 := Nat.le_trans (List.length_filter_le _ _) HA2.out.el
   have HR0 := HR
   have HW0 := HW
   have hOl0 := hOl
   clear hs hE hlk0
   go_wp2
   go_loopw [7, 27] (fun u i wq => ∃ (j : Nat) (T : List Int), i = .int .i64 (j : Int) ∧ j ≤ (edgesOf N s).length ∧ Hid (∀ t, t ∈ T ↔ t ∈ O ∨ ∃ (m : Nat) (p : Int × Nat × Int), m < j ∧ (edgesOf N s)[m]? = some p ∧ p.2.1.testBit b = true ∧ p.2.2 = t) ∧ T.length ≤ capK k + j ∧ Hid (wq.ownsRow w.heap.size 3 1 u T.length (intsC T)) ∧ Hid (Below w.heap.size w wq)) (fun _ i _ => (edgesOf N s).length - (intOf i).toNat)
   case atStart => exact ⟨0, O, rfl, Nat.zero_le _, Lib.hid (fun t => ⟨.inl, fun h => h.elim id (fun ⟨m, _, h1, _⟩ => (by omega))⟩), by omega, HR, HW⟩
   case round =>
    clear HR HW
    obtain ⟨j, T, rfl, hj, HT, hTl, HR, HW⟩ := hrel
    have hbd := capK_le (Nat.le_trans hk hlen)
    by_cases hjl : j < (edgesOf N s).length
    ·obtain ⟨⟨f, z, t⟩, hp⟩ : ∃ p, (edgesOf N s)[j]? = some p := ⟨_, List.getElem?_eq_getElem hjl⟩
     obtain ⟨c1, o1, rfl, e0, e1, e2, e3, e4, e5⟩ := (HE.out.below HW.out) j (f, z, t) hp
     have hdj : (j : Int) < ((edgesOf N s).length : Int) := by omega
     have hdk : (j : Int) < (c4 : Int) := by omega
     have HP := Lib.hid hp
     clear hp
     dsimp only at e0 e1 e2 e3 e4 e5
     have hbs := HW.out.size
     have HH := Lib.hid (fun W : World => shas_any z.testBit b W hb)
     have hx1 : Below w.heap.size w (wr.alloc (.cells #[.int .i64 f, .int .u64 (word z.testBit 0), .int .u64 (word z.testBit 1), .int .u64 (word z.testBit 2), .int .u64 (word z.testBit 3), .int .i64 t] 100)) := HW.out.alloc hbs _
     have HX := Lib.hid (Blk.new wr 100 #[.int .i64 f, .int .u64 (word z.testBit 0), .int .u64 (word z.testBit 1), .int .u64 (word z.testBit 2), .int .u64 (word z.testBit 3), .int .i64 t])
     have HRx := Lib.hid (show (wr.alloc (.cells #[.int .i64 f, .int .u64 (word z.testBit 0), .int .u64 (word z.testBit 1), .int .u64 (word z.testBit 2), .int .u64 (word z.testBit 3), .int .i64 t] 100)).ownsRow w.heap.size 3 1 u7 T.length (intsC T) from HR.out.alloc _)
     have HX1 := Lib.hid hx1
     have hgx : wr.heap.size = wr.heap.size := rfl
     clear hx1 hc hlk x3
     cases hz : z.testBit b with
     | false =>
      have HZ := Lib.hid hz
      rw [hz] at HH
      clear hz
      go_wp2_with fail
      refine (HH.out _).mono ?_
      rintro e w4 ⟨rfl, hb4⟩
      have HR4 := Lib.hid (own_below HRx.out hb4)
      have HW4 := Lib.hid (HX1.out.trans (hb4.mono HX1.out.size))
      clear hb4 HX HX1 HRx HR HW e0 e1 e2 e3 e4 e5
      dsimp only
      go_wp2
      go_roundw
      case rel => exact ⟨j + 1, T, by go_num, by omega, Lib.hid (fun s' => (HT.out s').trans ⟨fun h => h.elim .inl (fun ⟨m, p, h1, h2⟩ => .inr ⟨m, p, by omega, h2⟩), fun h => h.elim .inl (fun ⟨m, p, h1, h2, h3, h4⟩ => by
       rcases Nat.lt_or_ge m j with h | h
       ·exact .inr ⟨m, p, h, h2, h3, h4⟩
       ·obtain rfl : m = j := by omega
        rw [HP.out] at h2
        cases h2
        have h6 : z.testBit b = true := h3
        rw [HZ.out] at h6
        cases h6)⟩), by omega, HR4, HW4⟩
      case measure => simp [intOf]; omega
     | true =>
      have HZ := Lib.hid hz
      rw [hz] at HH
      clear hz
      go_wp2_with fail
      refine (HH.out _).mono ?_
      rintro e w4 ⟨rfl, hb4⟩
      have hx4 := HX.out.below hb4 HX.out.lt
      have y5 := hx4.cell 5
      have hly := hx4.lt
      simp only [List.getElem?_toArray, List.getElem?_cons_zero, List.getElem?_cons_succ] at y5
      have hr4 := own_below HRx.out hb4
      have hw4 := HX1.out.trans (hb4.mono HX1.out.size)
      obtain ⟨v1, w5, hr5, ho5, hb5⟩ := push_own_int w4 w.heap.size _ T hr4 t (by omega) hw4.size
      have HR5 := Lib.hid hr5
      have HO5 := Lib.hid ho5
      have HW5 := Lib.hid (hb5 w.heap.size w hw4 (Nat.le_refl _))
      clear hb4 HX HX1 HRx HR HW e0 e1 e2 e3 e4 e5 hx4 hr4 hw4 hr5 ho5 hb5
      dsimp only
      go_wp2_with (at_builtin; refine wpList_append_by rfl _ _ 41 41 rfl _ _ _ _ rfl rfl HR5.out ?_)
      go_light
      go_roundw
      case rel => exact ⟨j + 1, T ++ [t], by go_num, by omega, Lib.hid (fun s' => by
       rw [List.mem_append, HT.out s', List.mem_singleton]
       constructor
       ·rintro ((h | ⟨m, p, h1, h2⟩) | rfl)
        ·exact .inl h
        ·exact .inr ⟨m, p, by omega, h2⟩
        ·exact .inr ⟨j, _, by omega, HP.out, HZ.out, rfl⟩
       ·rintro (h | ⟨m, p, h1, h2, h3, h4⟩)
        ·exact .inl (.inl h)
        ·rcases Nat.lt_or_ge m j with h | h
         ·exact .inl (.inr ⟨m, p, h, h2, h3, h4⟩)
         ·obtain rfl : m = j := by omega
          rw [HP.out] at h2
          cases h2
          exact .inr h4.symm), by simp; omega, HO5, HW5⟩
      case measure => simp [intOf]; omega
    ·have hjl2 : ¬ (j : Int) < ((edgesOf N s).length : Int) := by omega
     obtain rfl : j = (edgesOf N s).length := by omega
     have hcs := capK_succ k
     have HK2 := Lib.hid (step_more HS.out HK.out HT.out)
     go_wp2
     go_roundw
     case rel => exact ⟨k + 1, T, by go_num, by omega, HK2, by omega, HR, HW⟩
     case measure => simp [intOf]; omega
  ·have hdl : ¬ (k : Int) < (l.length : Int) := by omega
   obtain rfl : k = l.length := by omega
   have HF := Lib.hid (show ∀ s, s ∈ O ↔ StepTo N l b s from fun s => (HK.out s).trans ⟨fun ⟨j, f, p, h1, h2, h3, h4, h5, h6⟩ => ⟨p, h3, by rw [h4]; exact List.mem_of_getElem? h2, h5, h6⟩, fun ⟨p, h1, h2, h3, h4⟩ => by
    obtain ⟨j, hj, e⟩ := List.mem_iff_getElem.1 h2
    exact ⟨j, p.1, p, hj, by rw [List.getElem?_eq_getElem hj, e], h1, rfl, h3, h4⟩⟩)
   obtain ⟨A5, c5, rfl, hi, hc⟩ := own_list HR.out
   have HC1 := Lib.hid (HC.out g lm em A3 k3 wr (HA.out.below HW.out) A5 c5 O hi (by have := capK_le hlen; omega) hc)
   go_wp2_with fail
   refine HC1.out.mono ?_
   rintro e w5 ⟨R, A6, c6, hcl, rfl, hb5, hi5, hc5⟩
   have HZ := Lib.hid (show _ ∧ _ ∧ _ ∧ _ from ⟨hcl, HW.out.trans (hb5.mono HW.out.size), hi5, hc5⟩)
   clear hcl hb5 hi5 hc5 HC1 HR HW hi hc
   dsimp only
   go_wp2
   go_light
   go_ret
   exact ⟨R, A6, c6, ⟨O, HF.out, HZ.out.1⟩, rfl, HZ.out.2.1, HZ.out.2.2.1, HZ.out.2.2.2⟩
end Go.Proofs.YtfekpkelmliejaaGreatDoor
namespace Go.Proofs.YtfekpkelmliejaaGreatDoor
open Go.RowKit
set_option linter.unusedSimpArgs false
set_option linter.unusedVariables false
set_option maxRecDepth 100000
set_option maxHeartbeats 8000000
theorem nright_big (N : NfaV) (A1 : Option Addr) (k1 : Nat) (A2 : Option Addr) (k2 : Nat) (A3 : Option Addr) (k3 : Nat) (w : World) (hN : NfaAt w N A1 A2 A3) (h : 65536 < N.states) : Calls Tryz.prog 72 #[.agg (nfA N A1 k1 A2 k2 A3 k3)] w fun e w' => e = .returned (.bool (rightN N)) ∧ Below w.heap.size w w' := by
 have hb1 : Below w.heap.size w (w.alloc (.cells (nfA N A1 k1 A2 k2 A3 k3) 43)) := (Below.refl _ _).alloc (Nat.le_refl _) _
 have HB1 := Lib.hid hb1
 have HX := Lib.hid (Blk.new w 43 (nfA N A1 k1 A2 k2 A3 k3))
 have HI := Lib.hid (is_go N.start N.states w.heap.size (w.alloc (.cells (nfA N A1 k1 A2 k2 A3 k3) 43)) (HX.out.cell 0))
 have HN := Lib.hid hN
 clear hb1 hN
 unfold nfA at *
 have HV := Lib.hid (rightN_head (N := N) (fun ⟨a, _⟩ => by omega))
 clear HI
 go_enter Tryz.func72, Tryz.ntmps72
 go_wp2
 go_light
 go_ret
 exact ⟨by rw [HV.out]; rfl, HB1.out⟩
theorem nright_start (N : NfaV) (A1 : Option Addr) (k1 : Nat) (A2 : Option Addr) (k2 : Nat) (A3 : Option Addr) (k3 : Nat) (w : World) (hN : NfaAt w N A1 A2 A3) (h : N.states ≤ 65536) (h2 : isB N.states N.start = false) : Calls Tryz.prog 72 #[.agg (nfA N A1 k1 A2 k2 A3 k3)] w fun e w' => e = .returned (.bool (rightN N)) ∧ Below w.heap.size w w' := by
 have hb1 : Below w.heap.size w (w.alloc (.cells (nfA N A1 k1 A2 k2 A3 k3) 43)) := (Below.refl _ _).alloc (Nat.le_refl _) _
 have HB1 := Lib.hid hb1
 have HX := Lib.hid (Blk.new w 43 (nfA N A1 k1 A2 k2 A3 k3))
 have HI := Lib.hid (is_go N.start N.states w.heap.size (w.alloc (.cells (nfA N A1 k1 A2 k2 A3 k3) 43)) (HX.out.cell 0))
 have HN := Lib.hid hN
 clear hb1 hN
 unfold nfA at *
 have HV := Lib.hid (rightN_head (N := N) (fun ⟨_, a, _⟩ => by rw [h2] at a; cases a))
 rw [h2] at HI
 have hd : decide ((65536 : Int) < N.states) = false := decide_eq_false (by omega)
 clear h2
 go_enter Tryz.func72, Tryz.ntmps72
 go_wp2_with fail
 refine HI.out.mono ?_
 rintro e w2 ⟨rfl, rfl⟩
 clear HI
 dsimp only
 go_wp2
 go_light
 go_ret
 exact ⟨by rw [HV.out]; rfl, HB1.out⟩
theorem nright_len (N : NfaV) (A1 : Option Addr) (k1 : Nat) (A2 : Option Addr) (k2 : Nat) (A3 : Option Addr) (k3 : Nat) (w : World) (hN : NfaAt w N A1 A2 A3) (h : N.states ≤ 65536) (h2 : isB N.states N.start = true) (h3 : (N.accept.length : Int) ≠ N.states) : Calls Tryz.prog 72 #[.agg (nfA N A1 k1 A2 k2 A3 k3)] w fun e w' => e = .returned (.bool (rightN N)) ∧ Below w.heap.size w w' := by
 have hb1 : Below w.heap.size w (w.alloc (.cells (nfA N A1 k1 A2 k2 A3 k3) 43)) := (Below.refl _ _).alloc (Nat.le_refl _) _
 have HB1 := Lib.hid hb1
 have HX := Lib.hid (Blk.new w 43 (nfA N A1 k1 A2 k2 A3 k3))
 have HI := Lib.hid (is_go N.start N.states w.heap.size (w.alloc (.cells (nfA N A1 k1 A2 k2 A3 k3) 43)) (HX.out.cell 0))
 have HN := Lib.hid hN
 clear hb1 hN
 unfold nfA at *
 have HV := Lib.hid (rightN_head (N := N) (fun ⟨_, _, a⟩ => h3 a))
 rw [h2] at HI
 have hd : decide ((65536 : Int) < N.states) = false := decide_eq_false (by omega)
 have hne : ((N.accept.length : Int) != N.states) = true := by rw [bne_iff_ne]; exact h3
 have y0 := HX.out.cell 0
 have y4 := HX.out.cell 4
 clear h2 h3
 go_enter Tryz.func72, Tryz.ntmps72
 go_wp2_with fail
 refine HI.out.mono ?_
 rintro e w2 ⟨rfl, rfl⟩
 clear HI
 dsimp only
 go_wp2
 go_light
 go_ret
 exact ⟨by rw [HV.out]; rfl, HB1.out⟩
theorem nright_rows (N : NfaV) (A1 : Option Addr) (k1 : Nat) (A2 : Option Addr) (k2 : Nat) (A3 : Option Addr) (k3 : Nat) (w : World) (hN : NfaAt w N A1 A2 A3) (h : N.states ≤ 65536) (h2 : isB N.states N.start = true) (h3 : (N.accept.length : Int) = N.states) : Calls Tryz.prog 72 #[.agg (nfA N A1 k1 A2 k2 A3 k3)] w fun e w' => e = .returned (.bool (rightN N)) ∧ Below w.heap.size w w' := by
 have hb1 : Below w.heap.size w (w.alloc (.cells (nfA N A1 k1 A2 k2 A3 k3) 43)) := (Below.refl _ _).alloc (Nat.le_refl _) _
 have HB1 := Lib.hid hb1
 have HX := Lib.hid (Blk.new w 43 (nfA N A1 k1 A2 k2 A3 k3))
 have HI := Lib.hid (is_go N.start N.states w.heap.size (w.alloc (.cells (nfA N A1 k1 A2 k2 A3 k3) 43)) (HX.out.cell 0))
 have HN := Lib.hid hN
 clear hb1 hN
 unfold nfA at *
 have HV := Lib.hid (rightN_tail h h2 h3)
 rw [h2] at HI
 have hd : decide ((65536 : Int) < N.states) = false := decide_eq_false (by omega)
 have hne : ((N.accept.length : Int) != N.states) = false := by rw [bne_eq_false_iff_eq]; exact h3
 have y0 := HX.out.cell 0
 have y4 := HX.out.cell 4
 have hll := HN.out.ll
 have hel := HN.out.el
 have hal := HN.out.al
 clear h2 h3
 go_enter Tryz.func72, Tryz.ntmps72
 go_wp2_with fail
 refine HI.out.mono ?_
 rintro e w2 ⟨rfl, rfl⟩
 clear HI y0 y4
 have y2 := HX.out.cell 2
 dsimp only
 go_wp2
 clear hd hne y2
 go_loopw [30] (fun i' wr => ∃ k : Nat, i' = .int .i64 (k : Int) ∧ k ≤ N.links.length ∧ Hid (∀ j z, j < k → N.links[j]? = some z → linkB N.states z = true) ∧ Hid (Below w.heap.size w wr) ∧ Hid (Blk wr w.heap.size 43 #[.int .i64 N.states, .int .i64 N.start, .slice A1 N.links.length k1, .slice A2 N.edges.length k2, .slice A3 N.accept.length k3])) (fun i' _ => N.links.length - (intOf i').toNat)
 case atStart => exact ⟨0, rfl, Nat.zero_le _, Lib.hid (fun j z hj => by omega), HB1, HX⟩
 case round =>
  clear HX HB1
  obtain ⟨k, rfl, hk, HR, HB, HX⟩ := hrel
  have hlx := HX.out.lt
  by_cases hlt : k < N.links.length
  ·obtain ⟨p, hp⟩ : ∃ p, N.links[k]? = some p := ⟨_, List.getElem?_eq_getElem hlt⟩
   obtain ⟨b, o, rfl, c0, c1⟩ := (HN.out.l.below HB.out) k p hp
   have hdl : (k : Int) < (N.links.length : Int) := by omega
   have hblk := World.block_lt_of_cell? wr _ c0
   have hbA : Below wr.heap.size wr (wr.alloc (.cells #[.int .i64 p.1, .int .i64 p.2] 98)) := (Below.refl _ _).alloc (Nat.le_refl _) _
   have HXA := Lib.hid (HX.out.alloc (.cells #[.int .i64 p.1, .int .i64 p.2] 98))
   have HBA := Lib.hid (HB.out.trans (hbA.mono HB.out.size))
   have HP := Lib.hid hp
   have HI1 := Lib.hid (is_go p.1 N.states w.heap.size _ (HXA.out.cell 0))
   have HI2 := Lib.hid (is_go p.2 N.states w.heap.size _ (HXA.out.cell 0))
   clear hp hbA
   cases hv1 : isB N.states p.1 with
   | false =>
    rw [hv1] at HI1
    have HF := Lib.hid (all_no HP.out (show linkB N.states p = false by unfold linkB; rw [hv1]; rfl))
    clear hv1
    go_wp2_with fail
    refine HI1.out.mono ?_
    rintro e w3 ⟨rfl, rfl⟩
    clear HI1 HI2 c0 c1
    dsimp only
    go_wp2
    go_light
    go_ret
    exact ⟨by rw [HV.out, HF.out]; rfl, HBA.out⟩
   | true =>
    rw [hv1] at HI1
    have HV1 := Lib.hid hv1
    clear hv1
    cases hv2 : isB N.states p.2 with
    | false =>
     rw [hv2] at HI2
     have HF := Lib.hid (all_no HP.out (show linkB N.states p = false by unfold linkB; rw [hv2, Bool.and_false]))
     clear hv2
     go_wp2_with fail
     refine HI1.out.mono ?_
     rintro e w3 ⟨rfl, rfl⟩
     clear HI1
     dsimp only
     go_wp2_with fail
     refine HI2.out.mono ?_
     rintro e w3 ⟨rfl, rfl⟩
     clear HI2 c0 c1
     dsimp only
     go_wp2
     go_light
     go_ret
     exact ⟨by rw [HV.out, HF.out]; rfl, HBA.out⟩
    | true =>
     rw [hv2] at HI2
     have HV2 := Lib.hid hv2
     clear hv2
     go_wp2_with fail
     refine HI1.out.mono ?_
     rintro e w3 ⟨rfl, rfl⟩
     clear HI1
     dsimp only
     go_wp2_with fail
     refine HI2.out.mono ?_
     rintro e w3 ⟨rfl, rfl⟩
     clear HI2 c0 c1
     dsimp only
     go_wp2
     go_roundw
     case rel => exact ⟨k + 1, by go_num, by omega, Lib.hid (fun j y hj hy => by
      rcases Nat.lt_or_ge j k with h | h
      ·exact HR.out j y h hy
      ·obtain rfl : j = k := by omega
       rw [HP.out] at hy
       cases hy
       unfold linkB
       rw [HV1.out, HV2.out]
       rfl), HBA, HXA⟩
     case measure => simp [intOf]; omega
  ·obtain rfl : k = N.links.length := by omega
   have hdl : ¬ ((N.links.length : Int) < (N.links.length : Int)) := by omega
   have HLL := Lib.hid (all_yes (f := linkB N.states) HR.out)
   clear HR hlt hk
   have y3 := HX.out.cell 3
   go_wp2
   clear y3
   go_loopw [50] (fun i' wr => ∃ k : Nat, i' = .int .i64 (k : Int) ∧ k ≤ N.edges.length ∧ Hid (∀ j z, j < k → N.edges[j]? = some z → edgeB N.states z = true) ∧ Hid (Below w.heap.size w wr) ∧ Hid (Blk wr w.heap.size 43 #[.int .i64 N.states, .int .i64 N.start, .slice A1 N.links.length k1, .slice A2 N.edges.length k2, .slice A3 N.accept.length k3])) (fun i' _ => N.edges.length - (intOf i').toNat)
   case atStart => exact ⟨0, rfl, Nat.zero_le _, Lib.hid (fun j z hj => by omega), HB, HX⟩
   case round =>
    clear HX HB hlx
    obtain ⟨k, rfl, hk, HR, HB, HX⟩ := hrel
    have hlx := HX.out.lt
    by_cases hlt : k < N.edges.length
    ·obtain ⟨p, hp⟩ : ∃ p, N.edges[k]? = some p := ⟨_, List.getElem?_eq_getElem hlt⟩
     obtain ⟨b, o, rfl, c0, c1, c2, c3, c4, c5⟩ := (HN.out.e.below HB.out) k p hp
     have hdl : (k : Int) < (N.edges.length : Int) := by omega
     have hblk := World.block_lt_of_cell? wr _ c0
     have hbA : Below wr.heap.size wr (wr.alloc (.cells #[.int .i64 p.1, .int .u64 (word p.2.1.testBit 0), .int .u64 (word p.2.1.testBit 1), .int .u64 (word p.2.1.testBit 2), .int .u64 (word p.2.1.testBit 3), .int .i64 p.2.2] 100)) := (Below.refl _ _).alloc (Nat.le_refl _) _
     have HXA := Lib.hid (HX.out.alloc (.cells #[.int .i64 p.1, .int .u64 (word p.2.1.testBit 0), .int .u64 (word p.2.1.testBit 1), .int .u64 (word p.2.1.testBit 2), .int .u64 (word p.2.1.testBit 3), .int .i64 p.2.2] 100))
     have HBA := Lib.hid (HB.out.trans (hbA.mono HB.out.size))
     have HP := Lib.hid hp
     have HI1 := Lib.hid (is_go p.1 N.states w.heap.size _ (HXA.out.cell 0))
     have HI2 := Lib.hid (is_go p.2.2 N.states w.heap.size _ (HXA.out.cell 0))
     clear hp hbA
     cases hv1 : isB N.states p.1 with
     | false =>
      rw [hv1] at HI1
      have HF := Lib.hid (all_no HP.out (show edgeB N.states p = false by unfold edgeB; rw [hv1]; rfl))
      clear hv1
      go_wp2_with fail
      refine HI1.out.mono ?_
      rintro e w3 ⟨rfl, rfl⟩
      clear HI1 HI2 c0 c1 c2 c3 c4 c5
      dsimp only
      go_wp2
      go_light
      go_ret
      exact ⟨by rw [HV.out, HF.out]; simp, HBA.out⟩
     | true =>
      rw [hv1] at HI1
      have HV1 := Lib.hid hv1
      clear hv1
      cases hv2 : isB N.states p.2.2 with
      | false =>
       rw [hv2] at HI2
       have HF := Lib.hid (all_no HP.out (show edgeB N.states p = false by unfold edgeB; rw [hv2, Bool.and_false]))
       clear hv2
       go_wp2_with fail
       refine HI1.out.mono ?_
       rintro e w3 ⟨rfl, rfl⟩
       clear HI1
       dsimp only
       go_wp2_with fail
       refine HI2.out.mono ?_
       rintro e w3 ⟨rfl, rfl⟩
       clear HI2 c0 c1 c2 c3 c4 c5
       dsimp only
       go_wp2
       go_light
       go_ret
       exact ⟨by rw [HV.out, HF.out]; simp, HBA.out⟩
      | true =>
       rw [hv2] at HI2
       have HV2 := Lib.hid hv2
       clear hv2
       go_wp2_with fail
       refine HI1.out.mono ?_
       rintro e w3 ⟨rfl, rfl⟩
       clear HI1
       dsimp only
       go_wp2_with fail
       refine HI2.out.mono ?_
       rintro e w3 ⟨rfl, rfl⟩
       clear HI2 c0 c1 c2 c3 c4 c5
       dsimp only
       go_wp2
       go_roundw
       case rel => exact ⟨k + 1, by go_num, by omega, Lib.hid (fun j y hj hy => by
        rcases Nat.lt_or_ge j k with h | h
        ·exact HR.out j y h hy
        ·obtain rfl : j = k := by omega
         rw [HP.out] at hy
         cases hy
         unfold edgeB
         rw [HV1.out, HV2.out]
         rfl), HBA, HXA⟩
       case measure => simp [intOf]; omega
    ·obtain rfl : k = N.edges.length := by omega
     have hdl : ¬ ((N.edges.length : Int) < (N.edges.length : Int)) := by omega
     have HEE := Lib.hid (all_yes (f := edgeB N.states) HR.out)
     have HC := Lib.hid (hasacc_go A3 k3 N.accept wr hal (HN.out.a.below HB.out))
     clear HR hlt hk
     have y4 := HX.out.cell 4
     go_wp2_with fail
     refine HC.out.mono ?_
     rintro e w3 ⟨rfl, rfl⟩
     clear HC y4
     dsimp only
     go_wp2
     go_light
     go_ret
     exact ⟨by rw [HV.out, HLL.out, HEE.out]; exact ret_b (by simp), HB.out⟩
theorem nright_go (N : NfaV) (A1 : Option Addr) (k1 : Nat) (A2 : Option Addr) (k2 : Nat) (A3 : Option Addr) (k3 : Nat) (w : World) (hN : NfaAt w N A1 A2 A3) : Calls Tryz.prog 72 #[.agg (nfA N A1 k1 A2 k2 A3 k3)] w fun e w' => e = .returned (.bool (rightN N)) ∧ Below w.heap.size w w' := by
 rcases Int.lt_or_le 65536 N.states with h | h
 ·exact nright_big N A1 k1 A2 k2 A3 k3 w hN h
 cases h2 : isB N.states N.start with
 | false => exact nright_start N A1 k1 A2 k2 A3 k3 w hN h h2
 | true =>
  by_cases h3 : (N.accept.length : Int) = N.states
  ·exact nright_rows N A1 k1 A2 k2 A3 k3 w hN h h2 h3
  ·exact nright_len N A1 k1 A2 k2 A3 k3 w hN h h2 h3
end Go.Proofs.YtfekpkelmliejaaGreatDoor
