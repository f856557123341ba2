/-
  The walk of NfaMakes.
-/
import Derived.Test.YtchfipjclbpomaaGreatQRefS
import Derived.Test.YtchfipjclbpomaaGreatQNfaEqR
import Derived.Test.YtchfipjclbpomaaGreatQNfaTo
import Derived.Test.YtchfipjclbpomaaGreatQKnows16
namespace Go.Proofs.YtchfipjclbpomaaGreat
open Go.RowKit
set_option linter.unusedSimpArgs false
set_option linter.unusedVariables false
set_option maxRecDepth 100000

/-- How a call that makes a machine ends, as any machine in memory. -/
def NfaVOut (N : NfaV) (k : Int) (w : World) (e : Ending) (w' : World) : Prop :=
  ∃ A1 k1 A2 k2 A3 k3, e = .returned (.tuple #[.agg (nfA N A1 k1 A2 k2 A3 k3), .int .i64 k]) ∧ Below w.heap.size w w' ∧ NfaAt w' N A1 A2 A3
theorem NfaOut.form {l : List Nd} : ∃ N k, ∀ w e w', NfaOut (ofS l) w e w' → NfaVOut N k w e w' := by
  cases h : ofS l with
  | error k =>
    refine ⟨⟨0, 0, [], [], []⟩, k, fun w e w' ho => ?_⟩
    exact ⟨none, 0, none, 0, none, 0, ho.2, ho.1, ⟨fun i p hp => by simp at hp, fun i p hp => by simp at hp, fun i a ha => by simp at ha, by simp, by simp, by simp⟩⟩
  | ok m =>
    refine ⟨m.toV, 0, fun w e w' ho => ?_⟩
    obtain ⟨hb, L, E, A, he, hR⟩ := ho
    have hf : FitsM m := by
      unfold ofS at h
      split at h
      · cases h
      split at h
      · cases h
      split at h
      · cases h
      · rename_i h1 h2 h3
        cases h
        exact (mach_fits (fun x hx => List.all_eq_true.1 (by simpa using h2) x hx) (by omega)).1
    obtain ⟨A1, k1, rfl⟩ := own_slice hR.l
    obtain ⟨A2, k2, rfl⟩ := own_slice hR.e
    obtain ⟨A3, k3, rfl⟩ := own_slice hR.a
    refine ⟨A1, k1, A2, k2, A3, k3, ?_, hb, hR.nfaAt hf⟩
    rw [he]
    simp only [nfA, MachS.toV, List.length_map]
theorem all_take {l : List Nd} {k : Nat} {z : Nd} (h : l[k]? = some z) : (l.take (k + 1)).all rightT = ((l.take k).all rightT && rightT z) := by
  rw [take_snocF h, List.all_append]
  simp

set_option maxHeartbeats 8000000 in
theorem makes_go (F : Trees) (B : Option Addr) (cap : Nat) (w : World) (hl : F.len ≤ 1048576) (hs : ∀ z ∈ F.list, z.size ≤ 140737488355328) (ht : TreesAt w (fun b => b < w.heap.size) F B) :
    Calls Tryz.prog 3 #[.slice B F.len cap] w fun e w' => e = .returned (.bool true) ∧ Below w.heap.size w w' := by
  have HT := Lib.hid ht
  have HS := Lib.hid hs
  obtain ⟨N, kk, hform⟩ := NfaOut.form (l := F.list)
  clear ht hs
  go_enter Tryz.func3, Tryz.ntmps3
  go_wp2
  go_loopw [3, 4] (fun v i' wr => ∃ k : Nat, i' = .int .i64 (k : Int) ∧ k ≤ F.len ∧ v = .bool ((F.list.take k).all rightT) ∧ Hid (Below w.heap.size w wr)) (fun _ i' _ => F.len - (intOf i').toNat)
  case atStart => exact ⟨0, rfl, Nat.zero_le _, rfl, Lib.hid (Below.refl _ _)⟩
  case round =>
    have HFORM := Lib.hid hform
    clear hform
    obtain ⟨k, rfl, hk, rfl, HB⟩ := hrel
    by_cases hlt : k < F.len
    · obtain ⟨z, hz⟩ : ∃ z, F.list[k]? = some z := ⟨_, List.getElem?_eq_getElem (by rw [Trees.len_list]; exact hlt)⟩
      have HV := Lib.hid (all_take hz)
      obtain ⟨b, o, C, capc, rfl, hbb, _, ⟨c0, c1, c2, c3, c4, c5, c6, c7⟩, hkz⟩ := (HT.out.below HB.out).get hz
      have hdl : (k : Int) < (F.len : Int) := by omega
      have HI := Lib.hid (rright_any z _ C capc wr (HS.out z (List.mem_of_getElem? hz)) hkz)
      clear hz hkz
      unfold ndV at HI
      cases hv : (F.list.take k).all rightT with
      | false =>
        rw [hv] at HV
        clear HI hv
        go_wp2
        go_roundw
        case rel => exact ⟨k + 1, by go_num, by omega, by rw [HV.out]; rfl, HB⟩
        case measure => simp [intOf]; omega
      | true =>
        rw [hv] at HV
        clear hv
        go_wp2_with fail
        refine HI.out.mono ?_
        rintro e w3 ⟨rfl, hb3⟩
        have HB3 := Lib.hid (HB.out.trans (hb3.mono HB.out.size))
        clear hb3 HI c0 c1 c2 c3 c4 c5 c6 c7
        dsimp only
        go_wp2
        go_roundw
        case rel => exact ⟨k + 1, by go_num, by omega, by rw [HV.out]; rfl, HB3⟩
        case measure => simp [intOf]; omega
    · obtain rfl : k = F.len := by omega
      have hdl : ¬ ((F.len : Int) < (F.len : Int)) := by omega
      have hV : F.list.take F.len = F.list := by rw [← Trees.len_list, List.take_length]
      rw [hV]
      clear hV
      have HT1 := Lib.hid ((HT.out.below HB.out).weak (Q := fun b => b < wr.heap.size) (fun b h _ => Nat.lt_of_lt_of_le h HB.out.size))
      have hform := HFORM.out
      clear HFORM
      cases hv : F.list.all rightT with
      | false =>
        clear hv
        have HO1 := Lib.hid (fun e w' h => hform wr e w' h)
        have HC1 := Lib.hid (Calls.mono (nof_go F B cap wr (by omega) (fun z hz => Nat.le_trans (HS.out z hz) (by decide)) (HT1.out)) (R' := NfaVOut N kk wr) (fun e w' h => hform wr e w' h))
        have HC2 := Lib.hid (fun (w1 : World) (hb : Below wr.heap.size wr w1) => Calls.mono (rof16_go F B cap w1 (by omega) HS.out ((HT1.out.below hb).weak (fun b h _ => Nat.lt_of_lt_of_le h hb.size))) (R' := NfaVOut N kk w1) (fun e w' h => hform w1 e w' h))
        clear HO1 hform
        go_wp2_with fail
        refine HC1.out.mono ?_
        rintro e w1 ⟨A1, k1, A2, k2, A3, k3, rfl, hb1, hA1⟩
        have hbA : Below w1.heap.size w1 (w1.alloc (.cells (nfA N A1 k1 A2 k2 A3 k3) 36)) := (Below.refl _ _).alloc (Nat.le_refl _) _
        have HC2' := Lib.hid (HC2.out _ (hb1.trans (hbA.mono hb1.size)))
        have HX := Lib.hid (Blk.new w1 36 (nfA N A1 k1 A2 k2 A3 k3))
        have HA1 := Lib.hid (hA1.below hbA)
        have HB1 := Lib.hid ((HB.out.trans (hb1.mono HB.out.size)).trans (hbA.mono (Nat.le_trans HB.out.size hb1.size)))
        clear hb1 hA1 hbA HC1 HC2
        unfold nfA at *
        dsimp only
        go_wp2_with fail
        refine HC2'.out.mono ?_
        rintro e w2 ⟨B1, j1, B2, j2, B3, j3, rfl, hb2, hM⟩
        have hx := HX.out.below hb2 HX.out.lt
        have hlx := hx.lt
        have x0 := hx.cell 0
        have x1 := hx.cell 1
        have x2 := hx.cell 2
        have x3 := hx.cell 3
        have x4 := hx.cell 4
        simp only [List.getElem?_toArray, List.getElem?_cons_zero, List.getElem?_cons_succ] at x0 x1 x2 x3 x4
        have hbB : Below w2.heap.size w2 (w2.alloc (.cells (nfA N B1 j1 B2 j2 B3 j3) 36)) := (Below.refl _ _).alloc (Nat.le_refl _) _
        have HC3 := Lib.hid (rsame16_go N N A1 k1 A2 k2 A3 k3 B1 j1 B2 j2 B3 j3 _ ((HA1.out.below hb2).below hbB) (hM.below hbB))
        have HB2 := Lib.hid ((HB1.out.trans (hb2.mono HB1.out.size)).trans (hbB.mono (Nat.le_trans HB1.out.size hb2.size)))
        rw [sameN_self] at HC3
        have hkk : (kk == kk) = true := by simp
        clear hb2 hM hbB HX HA1 HC2' HB1 hx
        unfold nfA at *
        dsimp only
        go_wp2_with fail
        refine HC3.out.mono ?_
        rintro e w3 ⟨rfl, hb3⟩
        have HB3 := Lib.hid (HB2.out.trans (hb3.mono HB2.out.size))
        clear hb3 HC3 HB2 x0 x1 x2 x3 x4
        dsimp only
        go_wp2_with fail
        refine (knows16_go _).mono ?_
        rintro e w9 ⟨rfl, hb9⟩
        have HB9 := Lib.hid (HB3.out.trans (hb9.mono HB3.out.size))
        clear hb9
        dsimp only
        go_wp2
        go_light
        go_ret
        exact ⟨rfl, HB9.out⟩
      | true =>
        have hra : ∀ z ∈ F.list, rightT z = true := List.all_eq_true.1 hv
        have HZ := Lib.hid (fun (w3 : World) (hb : Below wr.heap.size wr w3) => rsize16_go F _ B cap w3 (by omega) HS.out (fun z hz => okays_of (hra z hz)) (HT1.out.below hb))
        have HZ0 := Lib.hid (HZ.out wr (Below.refl _ _))
        clear hra hv
        generalize sizeW F.list = sz at *
        rcases Nat.lt_or_ge 3000 sz with h3 | h3
        · have hd3 : (3000 : Int) < (sz : Int) := by omega
          go_wp2_with fail
          refine HZ0.out.mono ?_
          rintro e w3 ⟨rfl, hb3⟩
          have HZ1 := Lib.hid (HZ.out w3 hb3)
          have hb3' := hb3
          clear HZ0 HZ
          dsimp only
          go_wp2_with fail
          refine HZ1.out.mono ?_
          rintro e w4 ⟨rfl, hb4⟩
          have HB4 := Lib.hid (HB.out.trans ((hb3.trans (hb4.mono hb3.size)).mono HB.out.size))
          clear HZ1 hb3' hb3 hb4
          rcases Nat.lt_or_ge 65536 sz with h6 | h6
          · have hd6 : ¬ (sz : Int) ≤ (65536 : Int) := by omega
            have HT9 := HT.out
            clear HB HT1
            have HB := HB4
            have HT1 := Lib.hid ((HT9.below HB.out).weak (Q := fun b => b < w4.heap.size) (fun b h _ => Nat.lt_of_lt_of_le h HB.out.size))
            clear HT9 HB4
            dsimp only
            have HO1 := Lib.hid (fun e w' h => hform w4 e w' h)
            have HC1 := Lib.hid (Calls.mono (nof_go F B cap w4 (by omega) (fun z hz => Nat.le_trans (HS.out z hz) (by decide)) (HT1.out)) (R' := NfaVOut N kk w4) (fun e w' h => hform w4 e w' h))
            have HC2 := Lib.hid (fun (w1 : World) (hb : Below w4.heap.size w4 w1) => Calls.mono (rof16_go F B cap w1 (by omega) HS.out ((HT1.out.below hb).weak (fun b h _ => Nat.lt_of_lt_of_le h hb.size))) (R' := NfaVOut N kk w1) (fun e w' h => hform w1 e w' h))
            clear HO1 hform
            go_wp2_with fail
            refine HC1.out.mono ?_
            rintro e w1 ⟨A1, k1, A2, k2, A3, k3, rfl, hb1, hA1⟩
            have hbA : Below w1.heap.size w1 (w1.alloc (.cells (nfA N A1 k1 A2 k2 A3 k3) 36)) := (Below.refl _ _).alloc (Nat.le_refl _) _
            have HC2' := Lib.hid (HC2.out _ (hb1.trans (hbA.mono hb1.size)))
            have HX := Lib.hid (Blk.new w1 36 (nfA N A1 k1 A2 k2 A3 k3))
            have HA1 := Lib.hid (hA1.below hbA)
            have HB1 := Lib.hid ((HB.out.trans (hb1.mono HB.out.size)).trans (hbA.mono (Nat.le_trans HB.out.size hb1.size)))
            clear hb1 hA1 hbA HC1 HC2
            unfold nfA at *
            dsimp only
            go_wp2_with fail
            refine HC2'.out.mono ?_
            rintro e w2 ⟨B1, j1, B2, j2, B3, j3, rfl, hb2, hM⟩
            have hx := HX.out.below hb2 HX.out.lt
            have hlx := hx.lt
            have x0 := hx.cell 0
            have x1 := hx.cell 1
            have x2 := hx.cell 2
            have x3 := hx.cell 3
            have x4 := hx.cell 4
            simp only [List.getElem?_toArray, List.getElem?_cons_zero, List.getElem?_cons_succ] at x0 x1 x2 x3 x4
            have hbB : Below w2.heap.size w2 (w2.alloc (.cells (nfA N B1 j1 B2 j2 B3 j3) 36)) := (Below.refl _ _).alloc (Nat.le_refl _) _
            have HC3 := Lib.hid (rsame16_go N N A1 k1 A2 k2 A3 k3 B1 j1 B2 j2 B3 j3 _ ((HA1.out.below hb2).below hbB) (hM.below hbB))
            have HB2 := Lib.hid ((HB1.out.trans (hb2.mono HB1.out.size)).trans (hbB.mono (Nat.le_trans HB1.out.size hb2.size)))
            rw [sameN_self] at HC3
            have hkk : (kk == kk) = true := by simp
            clear hb2 hM hbB HX HA1 HC2' HB1 hx
            unfold nfA at *
            dsimp only
            go_wp2_with fail
            refine HC3.out.mono ?_
            rintro e w3 ⟨rfl, hb3⟩
            have HB3 := Lib.hid (HB2.out.trans (hb3.mono HB2.out.size))
            clear hb3 HC3 HB2 x0 x1 x2 x3 x4
            dsimp only
            go_wp2_with fail
            refine (knows16_go _).mono ?_
            rintro e w9 ⟨rfl, hb9⟩
            have HB9 := Lib.hid (HB3.out.trans (hb9.mono HB3.out.size))
            clear hb9
            dsimp only
            go_wp2
            go_light
            go_ret
            exact ⟨rfl, HB9.out⟩
          · have hd6 : (sz : Int) ≤ (65536 : Int) := by omega
            dsimp only
            go_wp2_with fail
            refine (knows16_go _).mono ?_
            rintro e w9 ⟨rfl, hb9⟩
            have HB9 := Lib.hid (HB4.out.trans (hb9.mono HB4.out.size))
            clear hb9
            dsimp only
            go_wp2
            go_light
            go_ret
            exact ⟨rfl, HB9.out⟩
        · have hd3 : ¬ (3000 : Int) < (sz : Int) := by omega
          go_wp2_with fail
          refine HZ0.out.mono ?_
          rintro e w4 ⟨rfl, hb3⟩
          have HB4 := Lib.hid (HB.out.trans (hb3.mono HB.out.size))
          clear HZ0 HZ hb3
          have HT9 := HT.out
          clear HB HT1
          have HB := HB4
          have HT1 := Lib.hid ((HT9.below HB.out).weak (Q := fun b => b < w4.heap.size) (fun b h _ => Nat.lt_of_lt_of_le h HB.out.size))
          clear HT9 HB4
          dsimp only
          have HO1 := Lib.hid (fun e w' h => hform w4 e w' h)
          have HC1 := Lib.hid (Calls.mono (nof_go F B cap w4 (by omega) (fun z hz => Nat.le_trans (HS.out z hz) (by decide)) (HT1.out)) (R' := NfaVOut N kk w4) (fun e w' h => hform w4 e w' h))
          have HC2 := Lib.hid (fun (w1 : World) (hb : Below w4.heap.size w4 w1) => Calls.mono (rof16_go F B cap w1 (by omega) HS.out ((HT1.out.below hb).weak (fun b h _ => Nat.lt_of_lt_of_le h hb.size))) (R' := NfaVOut N kk w1) (fun e w' h => hform w1 e w' h))
          clear HO1 hform
          go_wp2_with fail
          refine HC1.out.mono ?_
          rintro e w1 ⟨A1, k1, A2, k2, A3, k3, rfl, hb1, hA1⟩
          have hbA : Below w1.heap.size w1 (w1.alloc (.cells (nfA N A1 k1 A2 k2 A3 k3) 36)) := (Below.refl _ _).alloc (Nat.le_refl _) _
          have HC2' := Lib.hid (HC2.out _ (hb1.trans (hbA.mono hb1.size)))
          have HX := Lib.hid (Blk.new w1 36 (nfA N A1 k1 A2 k2 A3 k3))
          have HA1 := Lib.hid (hA1.below hbA)
          have HB1 := Lib.hid ((HB.out.trans (hb1.mono HB.out.size)).trans (hbA.mono (Nat.le_trans HB.out.size hb1.size)))
          clear hb1 hA1 hbA HC1 HC2
          unfold nfA at *
          dsimp only
          go_wp2_with fail
          refine HC2'.out.mono ?_
          rintro e w2 ⟨B1, j1, B2, j2, B3, j3, rfl, hb2, hM⟩
          have hx := HX.out.below hb2 HX.out.lt
          have hlx := hx.lt
          have x0 := hx.cell 0
          have x1 := hx.cell 1
          have x2 := hx.cell 2
          have x3 := hx.cell 3
          have x4 := hx.cell 4
          simp only [List.getElem?_toArray, List.getElem?_cons_zero, List.getElem?_cons_succ] at x0 x1 x2 x3 x4
          have hbB : Below w2.heap.size w2 (w2.alloc (.cells (nfA N B1 j1 B2 j2 B3 j3) 36)) := (Below.refl _ _).alloc (Nat.le_refl _) _
          have HC3 := Lib.hid (rsame16_go N N A1 k1 A2 k2 A3 k3 B1 j1 B2 j2 B3 j3 _ ((HA1.out.below hb2).below hbB) (hM.below hbB))
          have HB2 := Lib.hid ((HB1.out.trans (hb2.mono HB1.out.size)).trans (hbB.mono (Nat.le_trans HB1.out.size hb2.size)))
          rw [sameN_self] at HC3
          have hkk : (kk == kk) = true := by simp
          clear hb2 hM hbB HX HA1 HC2' HB1 hx
          unfold nfA at *
          dsimp only
          go_wp2_with fail
          refine HC3.out.mono ?_
          rintro e w3 ⟨rfl, hb3⟩
          have HB3 := Lib.hid (HB2.out.trans (hb3.mono HB2.out.size))
          clear hb3 HC3 HB2 x0 x1 x2 x3 x4
          dsimp only
          go_wp2_with fail
          refine (knows16_go _).mono ?_
          rintro e w9 ⟨rfl, hb9⟩
          have HB9 := Lib.hid (HB3.out.trans (hb9.mono HB3.out.size))
          clear hb9
          dsimp only
          go_wp2
          go_light
          go_ret
          exact ⟨rfl, HB9.out⟩
end Go.Proofs.YtchfipjclbpomaaGreat
