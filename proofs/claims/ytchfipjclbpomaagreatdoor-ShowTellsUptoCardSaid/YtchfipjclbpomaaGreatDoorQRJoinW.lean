/-
  The contract of the reference's Join.
-/
import Derived.Test.YtchfipjclbpomaaGreatDoorQZ04
namespace Go.Proofs.YtchfipjclbpomaaGreatDoor
open Go.RowKit
set_option linter.unusedSimpArgs false
set_option linter.unusedVariables false
set_option maxRecDepth 100000

theorem val_str {a b : ByteArray} (h : a = b) : Value.string a = .string b := by rw [h]
theorem LexsAt.at {w : World} {B b o : Nat} {L : List Lex} (h : LexsAt w B (some ⟨b, o, none⟩) L) {k : Nat} {x : Lex} (hx : L[k]? = some x) :
    w.cell? ⟨b, o + k * 8, none⟩ = some (.int .i64 x.kind) ∧ w.cell? ⟨b, o + k * 8 + 1, none⟩ = some (.int .i64 x.place) ∧
    w.cell? ⟨b, o + k * 8 + 2, none⟩ = some (.int .u64 ((word x.set 0 : Nat) : Int)) ∧ w.cell? ⟨b, o + k * 8 + 3, none⟩ = some (.int .u64 ((word x.set 1 : Nat) : Int)) ∧ w.cell? ⟨b, o + k * 8 + 4, none⟩ = some (.int .u64 ((word x.set 2 : Nat) : Int)) ∧ w.cell? ⟨b, o + k * 8 + 5, none⟩ = some (.int .u64 ((word x.set 3 : Nat) : Int)) ∧
    w.cell? ⟨b, o + k * 8 + 6, none⟩ = some (.int .i64 x.lo) ∧ w.cell? ⟨b, o + k * 8 + 7, none⟩ = some (.int .i64 x.hi) := by
  obtain ⟨b', o', e, _, hc⟩ := h (by have := (List.getElem?_eq_some_iff.mp hx).1; omega)
  obtain ⟨rfl, rfl⟩ : b = b' ∧ o = o' := by simpa using e
  exact hc k x hx
theorem LexsAt.form {w : World} {B : Nat} {A : Option Addr} {L : List Lex} (h : LexsAt w B A L) (hn : 0 < L.length) : ∃ b o, A = some ⟨b, o, none⟩ ∧ b < B := by
  obtain ⟨b, o, e, h, _⟩ := h hn
  exact ⟨b, o, e, h⟩

set_option maxHeartbeats 2000000 in
theorem rjoin_go (A : Option Addr) (cap : Nat) (L : List Lex) (w : World) (hA : LexsAt w w.heap.size A L) (hlen : L.length ≤ 1048576) :
    Calls Tryz.prog 22 #[.slice A L.length cap] w fun e w' => e = .returned (joinV L) ∧ Below w.heap.size w w' := by
  have HA := Lib.hid hA
  clear hA
  go_enter Tryz.func22, Tryz.ntmps22
  go_wp2
  go_loopw [4, 5] (fun v i wr => ∃ k : Nat, i = .int .i64 (k : Int) ∧ k ≤ L.length ∧ v = .string (strOf (joinS (L.take k))) ∧ Hid (Below w.heap.size w wr) ∧ Hid (∀ (j : Nat) x, j < k → L[j]? = some x → rightS x = true)) (fun _ i _ => L.length - (intOf i).toNat)
  case atStart => exact ⟨0, rfl, Nat.zero_le _, rfl, Lib.hid (Below.refl _ _), Lib.hid (fun j x hj => by omega)⟩
  case round =>
    obtain ⟨k, rfl, hk, rfl, HB, HR⟩ := hrel
    by_cases hlt : k < L.length
    · obtain ⟨x, hx⟩ : ∃ x, L[k]? = some x := ⟨_, List.getElem?_eq_getElem hlt⟩
      obtain ⟨b, o, rfl, hbl⟩ := HA.out.form (by omega)
      have HAr := Lib.hid (HA.out.below HB.out)
      obtain ⟨c0, c1, c2, c3, c4, c5, c6, c7⟩ := HAr.out.at hx
      have Hx := Lib.hid hx
      have hdl : (k : Int) < (L.length : Int) := by omega
      clear hx
      go_wp2_with fail
      refine (rright_go _ _ _ _ _ _ _ _ _).mono ?_
      rintro e w1 ⟨rfl, hb1⟩
      have HB1 := Lib.hid (HB.out.trans (hb1.mono HB.out.size))
      clear hb1 c0 c1 c2 c3 c4 c5 c6 c7
      cases hr : rightS x
      · have hr' := hr
        unfold rightS at hr'
        rw [hr']
        have HV := Lib.hid (joinV_bad Hx.out hr)
        clear hr hr'
        go_wp2
        go_light
        go_ret2
        exact ⟨by rw [HV.out]; rfl, HB1.out⟩
      · have hr' := hr
        unfold rightS at hr'
        rw [hr']
        have Hr := Lib.hid hr
        clear hr hr'
        have HA1 := Lib.hid (HA.out.below HB1.out)
        obtain ⟨c0, c1, c2, c3, c4, c5, c6, c7⟩ := HA1.out.at Hx.out
        have l1 := joinS_len (L.take k)
        have l2 : (L.take k).length ≤ 1048576 := by rw [List.length_take]; omega
        have l3 := textS_len x
        go_wp2_with fail
        refine (rtext_go x _ Hr.out).mono ?_
        rintro e w2 ⟨rfl, hb2⟩
        have HB2 := Lib.hid (HB1.out.trans (hb2.mono HB1.out.size))
        have Hj := Lib.hid (joinS_take Hx.out)
        clear hb2 c0 c1 c2 c3 c4 c5 c6 c7
        go_wp2
        go_light
        go_roundw
        case rel => exact ⟨k + 1, by go_num, by omega, val_str (by rw [Hj.out, strOf_append]), HB2, Lib.hid (fun j y hj hy => by
          rcases Nat.lt_or_ge j k with h | h
          · exact HR.out j y h hy
          · obtain rfl : j = k := by omega
            rw [Hx.out] at hy
            cases hy
            exact Hr.out)⟩
        case measure => simp [intOf]; omega
    · have hdl : ¬ (k : Int) < (L.length : Int) := by omega
      obtain rfl : k = L.length := by omega
      have HV := Lib.hid (joinV_ok (fun j x hx => HR.out j x (List.getElem?_eq_some_iff.mp hx).1 hx))
      have HT := Lib.hid (List.take_length (l := L))
      go_wp2
      go_light
      go_ret2
      exact ⟨by rw [HV.out]; rfl, HB.out⟩

end Go.Proofs.YtchfipjclbpomaaGreatDoor
