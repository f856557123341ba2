/-
  The contract of the reference's wrong: what is wrong first with lexemes.
-/
import Derived.Test.YtchfipjclbpomaaGreatDoorQReady
namespace Go.Proofs.YtchfipjclbpomaaGreatDoor
open Go.RowKit
set_option linter.unusedSimpArgs false
set_option linter.unusedVariables false
set_option maxRecDepth 100000

def badOf : Option Wrong → Int × Int
  | none => (0, 0)
  | some x => x
def ints (l : List Int) : List Value := l.map (Value.int .i64)
/-- A round of wrong. -/
def InWrong (L : List Lex) (w : World) (v p i : Value) (wr : World) : Prop :=
  ∃ (k : Nat) (op : List Int) (b : Bool), i = .int .i64 (k : Int) ∧ p = .bool b ∧ k ≤ L.length ∧ op.length ≤ 64 ∧ wrongS op b (L.drop k) = wrongS [] false L ∧ wr.ownsRow (w.heap.size + 1) 3 1 v op.length (ints op.reverse) ∧ Blk wr w.heap.size 51 #[.int .i64 0, .int .i64 0] ∧ Below w.heap.size w wr
theorem row_top {w : World} {base g cap : Nat} {x : Int} {op : List Int} (h : w.ownsRow base 3 1 (.slice (some ⟨g, 0, none⟩) (op.length + 1) cap) (op.length + 1) (ints (x :: op).reverse)) : w.cell? ⟨g, op.length, none⟩ = some (.int .i64 x) := by
  have hc := h.cells (g := g) rfl op.length (.int .i64 x) (by simp [ints])
  have e : (⟨g, 0, none⟩ : Addr).add op.length = ⟨g, op.length, none⟩ := by
    rcases Nat.eq_zero_or_pos op.length with hz | hz
    · rw [hz]; rfl
    · have h1 : ¬ op.length = 0 := by omega
      simp [Addr.add, h1]
  exact e ▸ hc
theorem row_pop {w : World} {base g cap : Nat} {x : Int} {op : List Int} (h : w.ownsRow base 3 1 (.slice (some ⟨g, 0, none⟩) (op.length + 1) cap) (op.length + 1) (ints (x :: op).reverse)) : w.ownsRow base 3 1 (.slice (some ⟨g, 0, none⟩) op.length cap) op.length (ints op.reverse) := by
  have e : ints (x :: op).reverse = ints op.reverse ++ [.int .i64 x] := by simp [ints]
  rw [e] at h
  exact ownsRow_pop (by simp [ints]) h
theorem own_form_cap {w : World} {base size n : Nat} {e : TypeId} {v : Value} {xs : List Value} (h : w.ownsRow base e size v n xs) (hn : 0 < n) : ∃ g cap, v = .slice (some ⟨g, 0, none⟩) n cap ∧ base ≤ g ∧ g < w.heap.size ∧ n ≤ cap := by
  rcases h.2 with ⟨_, h0⟩ | ⟨g, c, cur, hv, hb, hh, hc, _⟩
  · omega
  · exact ⟨g, c, hv, hb, (Array.getElem?_eq_some_iff.1 hh).1, hc⟩

set_option maxHeartbeats 4000000 in
theorem wrong_go (A : Option Addr) (cap : Nat) (L : List Lex) (w : World) (hA : LexsAt w w.heap.size A L) (hlen : L.length ≤ 100000) :
    Calls Tryz.prog 44 #[.slice A L.length cap] w fun e w' => e = .returned (.agg #[.int .i64 (badOf (wrongS [] false L)).1, .int .i64 (badOf (wrongS [] false L)).2]) ∧ Below w.heap.size w w' := by
  obtain ⟨i0, hi, hz0, hz1, hz2⟩ := info_parts info_int
  have HA := Lib.hid hA
  have h0 : InWrong L w (.slice (some ⟨w.heap.size + 1, 0, none⟩) 0 0) (.bool false) (.int .i64 0) ((w.alloc (.cells #[.int .i64 0, .int .i64 0] 51)).alloc (.cells #[] 3)) := by
    refine ⟨0, [], false, rfl, rfl, Nat.zero_le _, by simp, rfl, ?_, (Blk.new _ _ _).alloc _, ((Below.refl _ _).alloc (Nat.le_refl _) _).alloc (by simp) _⟩
    have h := World.ownsRow_made (base := w.heap.size + 1) (size := 1) (e := 3) (w.alloc (.cells #[.int .i64 0, .int .i64 0] 51)) #[] 0 (by simp) (by decide) rfl
    rw [World.size_alloc] at h
    exact h
  have H0 := Lib.hid h0
  clear hA h0
  go_enter Tryz.func44, Tryz.ntmps44
  go_wp2
  go_loopw [3, 4, 5] (fun v p i wr => InWrong L w v p i wr) (fun _ _ i _ => L.length - (intOf i).toNat)
  case atStart => exact H0.out
  case round =>
    clear H0
    obtain ⟨k, op, b, rfl, rfl, hk, ho, hW, hrow, hZ, hB⟩ := hrel
    have HZ := Lib.hid hZ
    have HB := Lib.hid hB
    have Hrow := Lib.hid hrow
    obtain ⟨b0, b1, f0, f1⟩ := hZ.c2
    have hsz := hB.size
    have hzl := hZ.lt
    clear hZ hB hrow
    by_cases hlt : k < L.length
    · obtain ⟨x, hx⟩ : ∃ x, L[k]? = some x := ⟨_, List.getElem?_eq_getElem hlt⟩
      have hdr : L.drop k = x :: L.drop (k + 1) := by
        rw [List.drop_eq_getElem_cons hlt]
        obtain ⟨_, e⟩ := List.getElem?_eq_some_iff.1 hx
        rw [e]
      rw [hdr] at hW
      have HW := Lib.hid hW
      obtain ⟨ba, o, rfl, hbl, hc⟩ := HA.out (by omega)
      obtain ⟨c0, c1, _⟩ := ((HA.out.below HB.out) (by omega)).elim fun b' h => h.elim fun o' h => by
        obtain ⟨e, _, h⟩ := h
        obtain ⟨rfl, rfl⟩ : ba = b' ∧ o = o' := by simpa using e
        exact h k x hx
      have hdl : (k : Int) < (L.length : Int) := by omega
      obtain ⟨Av, cv, hu⟩ := own_slice Hrow.out
      subst hu
      clear hc hx hdr hW
      by_cases k1 : x.kind = 1
      · have HV := Lib.hid (show wrongS op true (L.drop (k + 1)) = wrongS [] false L by rw [← HW.out]; conv => rhs; unfold wrongS
                                                                                        rw [if_pos k1])
        rw [k1] at c0
        clear k1
        go_wp2
        go_light
        go_roundw
        case rel => exact ⟨k + 1, op, true, by go_num, rfl, by omega, ho, HV.out, Hrow.out, HZ.out, HB.out⟩
        case measure => simp [intOf]; omega
      by_cases k2 : x.kind = 2
      · rw [k2] at c0
        by_cases h64 : 64 ≤ op.length
        · have HV := Lib.hid (show wrongS [] false L = some (17, x.place) by
            rw [← HW.out]; unfold wrongS; rw [if_neg k1, if_pos k2, if_pos h64])
          have hd : (64 : Int) ≤ (op.length : Int) := by omega
          clear k1 k2 h64
          go_wp2
          go_light
          rw [HV.out]
          exact bodyPost_ret (ret_badv Tryz.results44 rfl HZ.out.set2) rfl ⟨rfl, below_set2 HB.out (Nat.le_refl _) _ _⟩
        · have HV := Lib.hid (show wrongS (x.place :: op) false (L.drop (k + 1)) = wrongS [] false L by
            rw [← HW.out]; conv => rhs; unfold wrongS
            rw [if_neg k1, if_pos k2, if_neg h64])
          have hd : ¬ (64 : Int) ≤ (op.length : Int) := by omega
          have h63 : op.length + 1 ≤ maxLen := Nat.le_trans (by omega) (show 200000 ≤ maxLen by decide)
          have hby : (op.length + 1) * 8 ≤ 140737488355328 := by omega
          have Hne := Lib.hid (blk_not_row HZ.out (by decide) Hrow.out)
          clear k1 k2
          go_wp2_with (at_builtin; refine wpList_append_lies _ rfl _ _ 40 rfl (w.heap.size + 1) 3 i0 _ 1 8 Tryz.underlying40 hi hz0 hz1 hz2 rfl (by decide) _ _ _ rfl (Hrow.out.alloc _) ⟨wr.heap.size, 0, none⟩ 1 1 [.int .i64 x.place] rfl rfl (cell_one_new _ _ _) (by simp [Value.oneCell']) (by decide) h63 hby (by simp; omega) (wr.heap.size + 1) (by simp) ?_; intro g3 cap3 w3 hown3 hgrow3 hat3 hg3; have HO3 := Lib.hid hown3; have HZ3 := Lib.hid ((HZ.out.alloc (.cells #[.int .i64 x.place] 3)).grown hgrow3 Hne.out); have HB3 := Lib.hid (below_grown (HB.out.alloc HB.out.size _) hgrow3 (Hrow.out.alloc _) (by omega) (by simp; omega)); clear hown3 hgrow3 hat3)
          go_light
          go_roundw
          case rel => exact ⟨k + 1, x.place :: op, false, by go_num, rfl, by omega, by simp; omega, HV.out, by simpa [ints] using HO3.out, HZ3.out, HB3.out⟩
          case measure => simp [intOf]; omega
      by_cases k3 : x.kind = 3
      · rw [k3] at c0
        cases op with
        | nil =>
          have HV := Lib.hid (show wrongS [] false L = some (12, x.place) by
            rw [← HW.out]; unfold wrongS; rw [if_neg k1, if_neg k2, if_pos k3])
          clear k1 k2 k3
          go_wp2
          go_light
          rw [HV.out]
          exact bodyPost_ret (ret_badv Tryz.results44 rfl HZ.out.set2) rfl ⟨rfl, below_set2 HB.out (Nat.le_refl _) _ _⟩
        | cons y op =>
          have HV := Lib.hid (show wrongS op true (L.drop (k + 1)) = wrongS [] false L by
            rw [← HW.out]; conv => rhs; unfold wrongS
            rw [if_neg k1, if_neg k2, if_pos k3])
          obtain ⟨g, cg, hv, _, hgl, hcg⟩ := own_form_cap Hrow.out (by simp)
          obtain ⟨rfl, _, rfl⟩ := Value.slice.inj hv
          have HP := Lib.hid (row_pop Hrow.out)
          simp only [List.length_cons] at hcg ho
          have hd : (((op.length : Int) + 1) == 0) = false := by rw [beq_eq_false_iff_ne]; omega
          have hj : IntKind.i64.wrap ((op.length : Int) + 1 - 1) = (op.length : Int) := by rw [Int.add_sub_cancel]; exact IntWalk.i64_in _ (by omega)
          have hj0 : (0 : Int) ≤ (op.length : Int) := by omega
          have hj1 : (op.length : Int) ≤ (cv : Int) := by omega
          clear k1 k2 k3 hv
          go_wp2
          go_light
          go_roundw
          case rel => exact ⟨k + 1, op, true, by go_num, rfl, by omega, by omega, HV.out, HP.out, HZ.out, HB.out⟩
          case measure => simp [intOf]; omega
      have e1 : (x.kind == 1) = false := by simp; exact k1
      have e2 : (x.kind == 2) = false := by simp; exact k2
      have e3 : (x.kind == 3) = false := by simp; exact k3
      by_cases k4 : x.kind = 4
      · have HV := Lib.hid (show wrongS op false (L.drop (k + 1)) = wrongS [] false L by
          rw [← HW.out]; conv => rhs; unfold wrongS
          rw [if_neg k1, if_neg k2, if_neg k3, if_pos k4])
        rw [k4] at c0
        clear k1 k2 k3 k4 e1 e2 e3
        go_wp2
        go_light
        go_roundw
        case rel => exact ⟨k + 1, op, false, by go_num, rfl, by omega, ho, HV.out, Hrow.out, HZ.out, HB.out⟩
        case measure => simp [intOf]; omega
      have e4 : (x.kind == 4) = false := by simp; exact k4
      cases b
      · have HV := Lib.hid (show wrongS [] false L = some (5, x.place) by
          rw [← HW.out]; unfold wrongS; rw [if_neg k1, if_neg k2, if_neg k3, if_neg k4, if_pos rfl])
        clear k1 k2 k3 k4
        go_wp2
        go_light
        rw [HV.out]
        exact bodyPost_ret (ret_badv Tryz.results44 rfl HZ.out.set2) rfl ⟨rfl, below_set2 HB.out (Nat.le_refl _) _ _⟩
      · have HV := Lib.hid (show wrongS op true (L.drop (k + 1)) = wrongS [] false L by
          rw [← HW.out]; conv => rhs; unfold wrongS
          rw [if_neg k1, if_neg k2, if_neg k3, if_neg k4, if_neg (by decide)])
        clear k1 k2 k3 k4
        go_wp2
        go_light
        go_roundw
        case rel => exact ⟨k + 1, op, true, by go_num, rfl, by omega, ho, HV.out, Hrow.out, HZ.out, HB.out⟩
        case measure => simp [intOf]; omega
    · have hdr : L.drop k = [] := List.drop_eq_nil_of_le (by omega)
      rw [hdr] at hW
      have HW := Lib.hid hW
      have hdl : ¬ (k : Int) < (L.length : Int) := by omega
      clear hW hdr
      cases op with
      | nil =>
        have HV := Lib.hid (show wrongS [] false L = none by rw [← HW.out]; rfl)
        obtain ⟨Av, cv, hu⟩ := own_slice Hrow.out
        subst hu
        go_wp2
        go_light
        rw [HV.out]
        exact bodyPost_ret (ret_badv Tryz.results44 rfl HZ.out.set2) rfl ⟨rfl, below_set2 HB.out (Nat.le_refl _) _ _⟩
      | cons y op =>
        have HV := Lib.hid (show wrongS [] false L = some (11, y) by rw [← HW.out]; rfl)
        obtain ⟨g, cg, hv, _, hgl, hcg⟩ := own_form_cap Hrow.out (by simp)
        subst hv
        have ct := row_top Hrow.out
        simp only [List.length_cons] at hcg ho
        have hd : (0 : Int) < (op.length : Int) + 1 := by omega
        have hj : IntKind.i64.wrap ((op.length : Int) + 1 - 1) = (op.length : Int) := by rw [Int.add_sub_cancel]; exact IntWalk.i64_in _ (by omega)
        have hj0 : (0 : Int) ≤ (op.length : Int) := by omega
        have hj1 : (op.length : Int) < (op.length : Int) + 1 := by omega
        go_wp2
        go_light
        rw [HV.out]
        exact bodyPost_ret (ret_badv Tryz.results44 rfl HZ.out.set2) rfl ⟨rfl, below_set2 HB.out (Nat.le_refl _) _ _⟩

end Go.Proofs.YtchfipjclbpomaaGreatDoor
