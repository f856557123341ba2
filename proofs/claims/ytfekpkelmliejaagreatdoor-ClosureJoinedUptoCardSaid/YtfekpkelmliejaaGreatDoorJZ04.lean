/- Texts of the claim. -/
import Derived.Lib.AppendStr
import Derived.BigQuiet
import Derived.MapKept
import Derived.ChangeMaps5
import Derived.RangeFuncBox
import Derived.Maps.AppendAt
import Derived.Maps.OwnIn
import Derived.Lib.Hide
import Derived.ArgAppend
import Derived.Test.YtfekpkelmliejaaGreatDoorJZ03
import Derived.Test.YtfekpkelmliejaaGreatDoorJZ02
import Derived.Test.YtfekpkelmliejaaGreatDoorJShow
import Derived.Test.YtfekpkelmliejaaGreatDoorJZ01
import Derived.Test.YtfekpkelmliejaaGreatDoorJSame
import Derived.Test.YtfekpkelmliejaaGreatDoorJSpans
namespace Go.Proofs.YtfekpkelmliejaaGreatDoor
open Go.RowKit
set_option linter.unusedSimpArgs false
set_option linter.unusedVariables false
set_option maxRecDepth 100000
set_option maxHeartbeats 8000000
@[go_sem] theorem run_str1_next (w : World) (o : Obj) (c : Nat) : (convert 30 9 (.slice (some ⟨w.heap.size + 1, 0, none⟩) 1 1)).run Tryz.prog ((w.alloc o).alloc (.cells #[.int .u8 (c : Int)] 5)) =
  .ok (.string (strOf [c])) ((w.alloc o).alloc (.cells #[.int .u8 (c : Int)] 5)) := by
 have h := run_str1 (w.alloc o) c
 rw [World.size_alloc] at h
 exact h
def putI (L : List Int) (n : Int) : List Int := if hasI L n = true then L else L.takeWhile (fun a => decide (a < n)) ++ n :: L.dropWhile (fun a => decide (a < n))
theorem putI_at {L : List Int} {n : Int} {k : Nat} (h : hasI L n = false) (hk : k ≤ L.length) (h1 : ∀ j a, j < k → L[j]? = some a → a < n) (h2 : ∀ a, L[k]? = some a → ¬ a < n) : putI L n = (L.take k ++ [n]) ++ L.drop k := by
 have e : ∀ (L : List Int) (k : Nat), k ≤ L.length → (∀ j a, j < k → L[j]? = some a → a < n) → (∀ a, L[k]? = some a → ¬ a < n) → L.takeWhile (fun a => decide (a < n)) = L.take k ∧ L.dropWhile (fun a => decide (a < n)) = L.drop k := by
  intro L
  induction L with
  | nil => intro k _ _ _; simp
  | cons x L ih =>
   intro k hk h1 h2
   cases k with
   | zero =>
    have := h2 x rfl
    simp [List.takeWhile_cons, List.dropWhile_cons, this]
   | succ k =>
    have hx := h1 0 x (Nat.zero_lt_succ _) rfl
    obtain ⟨e1, e2⟩ := ih k (by simpa using hk) (fun j a hj ha => h1 (j + 1) a (by omega) (by simpa using ha)) (fun a ha => h2 a (by simpa using ha))
    simp [List.takeWhile_cons, List.dropWhile_cons, hx, e1, e2]
 obtain ⟨e1, e2⟩ := e L k hk h1 h2
 unfold putI
 rw [h, if_neg (by decide), e1, e2]
 simp
def IntsOut (L : List Int) (w : World) (e : Ending) (w' : World) : Prop := ∃ b o cap, e = .returned (.slice (some ⟨b, o, none⟩) L.length cap) ∧ Below w.heap.size w w' ∧ L.length ≤ cap ∧ IntsAt w' (some ⟨b, o, none⟩) L ∧ b < w'.heap.size
theorem one_int (w : World) (a : Int) : IntsAt (w.alloc (.cells #[.int .i64 a] 3)) (some ⟨w.heap.size, 0, none⟩) [a] := fun i x hx => by
 cases i with
 | zero =>
  have : a = x := by simpa using hx
  subst this
  exact ⟨_, _, rfl, (Blk.new w 3 #[.int .i64 a]).cell 0⟩
 | succ i => simp at hx
theorem IntsAt.drop {w : World} {b o : Nat} {L : List Int} (h : IntsAt w (some ⟨b, o, none⟩) L) (k : Nat) : IntsAt w (some ⟨b, o + k, none⟩) (L.drop k) := fun i a ha => by
 rw [List.getElem?_drop] at ha
 obtain ⟨b', o', e, hc⟩ := h (k + i) a ha
 cases e
 exact ⟨b, o + k, rfl, by rw [Nat.add_assoc]; exact hc⟩
theorem ints_made (w : World) : (w.alloc (.cells #[] 3)).ownsRow w.heap.size 3 1 (.slice (some ⟨w.heap.size, 0, none⟩) 0 0) ([] : List Int).length (intsC []) :=
 ⟨rfl, .inr ⟨w.heap.size, 0, #[], rfl, Nat.le_refl _, heap_alloc_new w _, Nat.le_refl _, Nat.zero_le _, rfl, rfl⟩⟩
theorem own_form_capC {w : World} {base size n : Nat} {e : TypeId} {v : Value} {xs : List Value} (h : w.ownsRow base e size v n xs) (hn : 0 < n) : ∃ g cap, v = .slice (some ⟨g, 0, none⟩) n cap ∧ base ≤ g ∧ g < w.heap.size ∧ n ≤ cap := by
 rcases h.2 with ⟨_, h0⟩ | ⟨g, c, cur, hv, hb, hh, hc, _⟩
 ·omega
 ·exact ⟨g, c, hv, hb, (Array.getElem?_eq_some_iff.1 hh).1, hc⟩
theorem push_own_int (w : World) (base : Nat) (v : Value) (acc : List Int) (hown : w.ownsRow base 3 1 v acc.length (intsC acc)) (a : Int) (hs : acc.length + 1 ≤ 10000000000000) (hbase : base ≤ w.heap.size) :
  ∃ v' w', (Builtin.append_ #[41, 41] 41 #[v, .slice (some ⟨w.heap.size, 0, none⟩) 1 1]).run Tryz.prog (w.alloc (.cells #[.int .i64 a] 3)) = .ok v' w' ∧ w'.ownsRow base 3 1 v' (acc ++ [a]).length (intsC (acc ++ [a])) ∧ ∀ B a0, Below B a0 w → B ≤ base → Below B a0 w' := by
 have ho : (w.alloc (.cells #[.int .i64 a] 3)).ownsRow base 3 1 v acc.length (intsC acc) := hown.alloc _
 obtain ⟨v', w', h1, h2, h3⟩ := append_own_ints (w.alloc (.cells #[.int .i64 a] 3)) base v acc ho 1 (one_int w a) (by simpa using hs) (by simp; omega) 41 41 Tryz.underlying41
 exact ⟨v', w', h1, h2, fun B a0 hb hle => below_grown (hb.alloc (by omega) (.cells #[.int .i64 a] 3)) h3 ho hle (by simp; omega)⟩
theorem int_sizeC (w : World) : (sizeOf 3).run Tryz.prog w = .ok 1 w := by kernel_rfl
theorem slice_from (b o : Nat) {L : List Int} {k cap : Nat} (hk : k ≤ L.length) (hc : L.length ≤ cap) : ∃ A5, (∀ W, (Instr.slice 41 (.slice (some ⟨b, o, none⟩) L.length cap) (some (.int .i64 (k : Int))) none none).run Tryz.prog W = .ok (.slice A5 (L.length - k) (cap - k)) W) ∧ ∀ W, IntsAt W (some ⟨b, o, none⟩) L → IntsAt W A5 (L.drop k) := by
 have ht : Tryz.prog.underlying 41 = some (.slice (Tryz.prog.elem 41)) := by kernel_rfl
 have he : Tryz.prog.elem 41 = 3 := by kernel_rfl
 refine ⟨if cap = k then some ⟨b, o, none⟩ else some ⟨b, o + k, none⟩, fun W => ?_, fun W h => ?_⟩
 ·rw [run_slice_l W 41 _ _ _ ht .i64 _ (by omega) (by omega), he, int_sizeC]
  by_cases h0 : cap = k
  ·simp [Result.andThen, sliced, h0]
  ·simp only [Result.andThen, sliced, Int.toNat_natCast, if_neg h0, Option.map_some, Nat.mul_one, addr_plusC]
 ·by_cases h0 : cap = k
  ·rw [if_pos h0, List.drop_eq_nil_of_le (by omega)]
   exact fun i a ha => by simp at ha
  ·rw [if_neg h0]
   exact h.drop k
theorem rput17_go (b o cap : Nat) (L : List Int) (n : Int) (w : World) (hA : IntsAt w (some ⟨b, o, none⟩) L) (hl : L.length ≤ 100000000) (hcap : L.length ≤ cap) (hb : b < w.heap.size) :
  Calls Tryz.prog 79 #[.slice (some ⟨b, o, none⟩) L.length cap, .int .i64 n] w (IntsOut (putI L n) w) := by
 have HC := Lib.hid (rhas17_go (some ⟨b, o, none⟩) cap L n w hA hl)
 have HA := Lib.hid hA
 clear hA
 cases hh : hasI L n with
 | true =>
  have HV := Lib.hid (show putI L n = L by unfold putI; rw [if_pos hh])
  rw [hh] at HC
  clear hh
  go_enter Tryz.func79, Tryz.ntmps79
  go_wp2_with fail
  refine HC.out.mono ?_
  rintro e w1 ⟨rfl, rfl⟩
  dsimp only
  go_wp2
  go_light
  rw [HV.out]
  go_ret
  exact ⟨b, o, cap, rfl, Below.refl _ _, hcap, HA.out, hb⟩
 | false =>
  rw [hh] at HC
  have HH := Lib.hid hh
  have HR0 := Lib.hid (ints_made w)
  have HB0 := Lib.hid ((Below.refl w.heap.size w).alloc (Nat.le_refl _) (.cells #[] 3))
  clear hh
  go_enter Tryz.func79, Tryz.ntmps79
  go_wp2_with fail
  refine HC.out.mono ?_
  rintro e w1 ⟨rfl, rfl⟩
  dsimp only
  go_wp2
  go_loopw [5, 6] (fun u i wr => ∃ k : Nat, i = .int .i64 (k : Int) ∧ k ≤ L.length ∧ Hid (∀ j a, j < k → L[j]? = some a → a < n) ∧ Hid (wr.ownsRow w.heap.size 3 1 u (L.take k).length (intsC (L.take k))) ∧ Hid (Below w.heap.size w wr)) (fun _ i _ => L.length - (intOf i).toNat)
  case atStart => exact ⟨0, rfl, Nat.zero_le _, Lib.hid (fun j a h => by omega), HR0, HB0⟩
  case round =>
   clear HR0 HB0 HC
   obtain ⟨k, rfl, hk, HK, HR, HB⟩ := hrel
   have HA2 := Lib.hid (HA.out.below HB.out)
   have hkc : (k : Int) ≤ (cap : Int) := by omega
   have hbs := HB.out.size
   have htl : (L.take k).length = k := by rw [List.length_take]; omega
   by_cases hlt : k < L.length
   ·obtain ⟨a, hr⟩ : ∃ a, L[k]? = some a := ⟨_, List.getElem?_eq_getElem hlt⟩
    obtain ⟨b', o', e, hc⟩ := HA2.out k a hr
    obtain ⟨rfl, rfl⟩ : b = b' ∧ o = o' := by
     have := Option.some.inj e
     injection this with h1 h2 h3
     exact ⟨h1, h2⟩
    clear e
    have hdl : (k : Int) < (L.length : Int) := by omega
    have hdc : (k : Int) < (cap : Int) := by omega
    by_cases ha : a < n
    ·have HK2 := Lib.hid (show ∀ j x, j < k + 1 → L[j]? = some x → x < n from fun j x hj hx => by
      rcases Nat.lt_or_ge j k with h | h
      ·exact HK.out j x h hx
      ·obtain rfl : j = k := by omega
       rw [hr] at hx
       cases hx
       exact ha)
     obtain ⟨v1, w1, hr1, ho1, hb1⟩ := push_own_int wr w.heap.size _ (L.take k) HR.out a (by omega) hbs
     have HR1 := Lib.hid hr1
     have HT := Lib.hid (show L.take k ++ [a] = L.take (k + 1) by rw [List.take_add_one, hr]; rfl)
     have HO1 := Lib.hid ho1
     have HW1 := Lib.hid (hb1 w.heap.size w HB.out (Nat.le_refl _))
     clear hr hr1 ho1 hb1 HR HB HK HA2
     go_wp2_with (at_builtin; refine wpList_append_by rfl _ _ 41 41 rfl _ _ _ _ rfl rfl HR1.out ?_)
     go_light
     go_roundw
     case rel => exact ⟨k + 1, by go_num, by omega, HK2, by rw [HT.out] at HO1; exact HO1, HW1⟩
     case measure => simp [intOf]; omega
    ·have hV := putI_at HH.out hk HK.out (fun x hx => by rw [hr] at hx; cases hx; exact ha)
     obtain ⟨A5, hsl, hA5⟩ := slice_from b o hk hcap
     obtain ⟨v1, w1, hr1, ho1, hb1⟩ := push_own_int wr w.heap.size _ (L.take k) HR.out n (by omega) hbs
     have hw1 := hb1 w.heap.size w HB.out (Nat.le_refl _)
     obtain ⟨v2, w2, hr2, ho2, hg2⟩ := append_own_ints w1 w.heap.size v1 (L.take k ++ [n]) ho1 (cap - k) (hA5 w1 (HA.out.below hw1)) (by simp; omega) hw1.size 41 41 Tryz.underlying41
     rw [← hV] at ho2
     rw [List.length_drop] at hr2
     have hw2 := below_grown hw1 hg2 ho1 (Nat.le_refl _) hw1.size
     have HV := Lib.hid hV
     have HR1 := Lib.hid hr1
     have HR2 := Lib.hid hr2
     have HO2 := Lib.hid ho2
     have HW2 := Lib.hid hw2
     clear hr1 ho1 hb1 hw1 hr2 ho2 hg2 hw2 hV HR HB HK HA2 hA5
     go_upto_region 9 with (at_builtin; refine wpList_append_by rfl _ _ 41 41 rfl _ _ _ _ rfl rfl HR1.out ?_)
     go_wp2_with (at_builtin; refine wpList_append_by rfl _ _ 41 41 rfl _ _ _ _ rfl rfl HR2.out ?_)
     go_light
     have h0 : 0 < (putI L n).length := by rw [HV.out]; simp; omega
     obtain ⟨g5, c5, rfl, _, hg5, hc5⟩ := own_form_capC HO2.out h0
     have HI5 := Lib.hid (own_intsC HO2.out)
     clear HO2
     generalize putI L n = M at *
     go_ret
     exact ⟨g5, 0, c5, rfl, HW2.out, hc5, HI5.out, hg5⟩
   ·have hdl : ¬ (k : Int) < (L.length : Int) := by omega
    have hV := putI_at HH.out hk HK.out (fun x hx => absurd (List.getElem?_eq_some_iff.1 hx).1 hlt)
    obtain ⟨A5, hsl, hA5⟩ := slice_from b o hk hcap
    obtain ⟨v1, w1, hr1, ho1, hb1⟩ := push_own_int wr w.heap.size _ (L.take k) HR.out n (by omega) hbs
    have hw1 := hb1 w.heap.size w HB.out (Nat.le_refl _)
    obtain ⟨v2, w2, hr2, ho2, hg2⟩ := append_own_ints w1 w.heap.size v1 (L.take k ++ [n]) ho1 (cap - k) (hA5 w1 (HA.out.below hw1)) (by simp; omega) hw1.size 41 41 Tryz.underlying41
    rw [← hV] at ho2
    rw [List.length_drop] at hr2
    have hw2 := below_grown hw1 hg2 ho1 (Nat.le_refl _) hw1.size
    have HV := Lib.hid hV
    have HR1 := Lib.hid hr1
    have HR2 := Lib.hid hr2
    have HO2 := Lib.hid ho2
    have HW2 := Lib.hid hw2
    clear hr1 ho1 hb1 hw1 hr2 ho2 hg2 hw2 hV HR HB HK HA2 hA5
    go_upto_region 9 with (at_builtin; refine wpList_append_by rfl _ _ 41 41 rfl _ _ _ _ rfl rfl HR1.out ?_)
    go_wp2_with (at_builtin; refine wpList_append_by rfl _ _ 41 41 rfl _ _ _ _ rfl rfl HR2.out ?_)
    go_light
    have h0 : 0 < (putI L n).length := by rw [HV.out]; simp; omega
    obtain ⟨g5, c5, rfl, _, hg5, hc5⟩ := own_form_capC HO2.out h0
    have HI5 := Lib.hid (own_intsC HO2.out)
    clear HO2
    generalize putI L n = M at *
    go_ret
    exact ⟨g5, 0, c5, rfl, HW2.out, hc5, HI5.out, hg5⟩
end Go.Proofs.YtfekpkelmliejaaGreatDoor
namespace Go.Proofs.YtfekpkelmliejaaGreatDoor
set_option linter.unusedSimpArgs false
set_option linter.unusedVariables false
set_option maxRecDepth 100000
set_option maxHeartbeats 8000000
def Rises (L : List Int) : Prop := L.Pairwise (· < ·)
theorem rises_ext : ∀ {L M : List Int}, Rises L → Rises M → (∀ x, x ∈ L ↔ x ∈ M) → L = M
 | [], [], _, _, _ => rfl
 | [], b :: M, _, _, h => by have := (h b).2 (by simp); simp at this
 | a :: L, [], _, _, h => by have := (h a).1 (by simp); simp at this
 | a :: L, b :: M, hL, hM, h => by
  obtain ⟨hL1, hL2⟩ := List.pairwise_cons.1 hL
  obtain ⟨hM1, hM2⟩ := List.pairwise_cons.1 hM
  have e : a = b := by
   rcases List.mem_cons.1 ((h a).1 (by simp)) with e | e
   ·exact e
   ·rcases List.mem_cons.1 ((h b).2 (by simp)) with e2 | e2
    ·exact e2.symm
    ·have h1 := hM1 a e
     have h2 := hL1 b e2
     omega
  subst e
  refine congrArg (a :: ·) (rises_ext hL2 hM2 fun x => ⟨fun hx => ?_, fun hx => ?_⟩)
  ·rcases List.mem_cons.1 ((h x).1 (List.mem_cons_of_mem a hx)) with e | e
   ·have := hL1 x hx; omega
   ·exact e
  ·rcases List.mem_cons.1 ((h x).2 (List.mem_cons_of_mem a hx)) with e | e
   ·have := hM1 x hx; omega
   ·exact e
theorem takeWhile_lt {n : Int} : ∀ (L : List Int) (x : Int), x ∈ L.takeWhile (fun a => decide (a < n)) → x < n
 | [], x, h => by simp at h
 | y :: L, x, h => by
  rw [List.takeWhile_cons] at h
  split at h
  ·rename_i hp
   rcases List.mem_cons.1 h with rfl | h
   ·simpa using hp
   ·exact takeWhile_lt L x h
  ·simp at h
theorem dropWhile_ge {n : Int} : ∀ {L : List Int}, Rises L → ∀ x ∈ L.dropWhile (fun a => decide (a < n)), n ≤ x
 | [], _, x, h => by simp at h
 | y :: L, hr, x, h => by
  obtain ⟨h1, h2⟩ := List.pairwise_cons.1 hr
  rw [List.dropWhile_cons] at h
  split at h
  ·exact dropWhile_ge h2 x h
  ·rename_i hp
   have hy : n ≤ y := by simpa using hp
   rcases List.mem_cons.1 h with rfl | h
   ·exact hy
   ·have := h1 x h; omega
theorem putI_mem (L : List Int) (n x : Int) : x ∈ putI L n ↔ x ∈ L ∨ x = n := by
 unfold putI
 split
 ·rename_i h
  exact ⟨.inl, fun h2 => h2.elim id (fun e => by rw [e]; exact hasI_iff.1 h)⟩
 ·have e : ∀ y, y ∈ L ↔ y ∈ L.takeWhile (fun a => decide (a < n)) ∨ y ∈ L.dropWhile (fun a => decide (a < n)) := fun y => by
   rw [← List.mem_append, List.takeWhile_append_dropWhile]
  rw [List.mem_append, List.mem_cons, e x]
  constructor
  ·rintro (h | h | h)
   ·exact .inl (.inl h)
   ·exact .inr h
   ·exact .inl (.inr h)
  ·rintro ((h | h) | h)
   ·exact .inl h
   ·exact .inr (.inr h)
   ·exact .inr (.inl h)
theorem putI_rises {L : List Int} {n : Int} (h : Rises L) : Rises (putI L n) := by
 unfold putI
 split
 ·exact h
 ·rename_i hn
  have h0 := List.takeWhile_append_dropWhile (p := fun a => decide (a < n)) (l := L)
  have h1 : Rises (L.takeWhile (fun a => decide (a < n))) := List.Pairwise.sublist (List.takeWhile_sublist _) h
  have h2 : Rises (L.dropWhile (fun a => decide (a < n))) := List.Pairwise.sublist (List.dropWhile_sublist _) h
  have hge := dropWhile_ge (n := n) h
  refine List.pairwise_append.2 ⟨h1, List.pairwise_cons.2 ⟨fun x hx => ?_, h2⟩, fun x hx y hy => ?_⟩
  ·have h3 := hge x hx
   have h4 : x ≠ n := fun e => hn (hasI_iff.2 (by rw [← e, ← h0]; exact List.mem_append_right _ hx))
   omega
  ·have h3 := takeWhile_lt L x hx
   rcases List.mem_cons.1 hy with rfl | hy
   ·exact h3
   ·have := hge y hy; omega
theorem putI_more {L : List Int} {n : Int} (h : n ∉ L) : (putI L n).length = L.length + 1 := by
 unfold putI
 rw [if_neg (fun e => h (hasI_iff.1 e))]
 have := congrArg List.length (List.takeWhile_append_dropWhile (p := fun a => decide (a < n)) (l := L))
 rw [List.length_append] at this
 simp only [List.length_append, List.length_cons]
 omega
theorem rises_len {L : List Int} {S : Nat} (h : Rises L) (hb : ∀ x ∈ L, 0 ≤ x ∧ x < S) : L.length ≤ S := by
 have key : ∀ (L : List Int) (lo : Int), 0 ≤ lo → lo ≤ S → Rises L → (∀ x ∈ L, lo ≤ x ∧ x < S) → (L.length : Int) ≤ S - lo := by
  intro L
  induction L with
  | nil => intro lo h0 h1 _ _; simp; omega
  | cons a L ih =>
   intro lo h0 h1 hr hb
   obtain ⟨h2, h3⟩ := List.pairwise_cons.1 hr
   have ha := hb a (by simp)
   have := ih (a + 1) (by omega) (by omega) h3 (fun x hx => ⟨by have := h2 x hx; omega, (hb x (by simp [hx])).2⟩)
   simp only [List.length_cons]
   omega
 have := key L 0 (Int.le_refl _) (by omega) h hb
 omega
inductive Leads (K : List (Int × Int)) (P : Int → Prop) : Int → Prop
 | here {s : Int} : P s → Leads K P s
 | link {a b : Int} : Leads K P a → (a, b) ∈ K → Leads K P b
def IsClos (K : List (Int × Int)) (S : Int) (l R : List Int) : Prop := Rises R ∧ ∀ x, x ∈ R ↔ Leads K (fun s => s ∈ l ∧ 0 ≤ s ∧ s < S) x
theorem clos_one {K : List (Int × Int)} {S : Int} {l R T : List Int} (h : IsClos K S l R) (h2 : IsClos K S l T) : R = T :=
 rises_ext h.1 h2.1 fun x => (h.2 x).trans (h2.2 x).symm
structure OnWay (K : List (Int × Int)) (S : Int) (l R : List Int) : Prop where
 rises : Rises R
 within : ∀ x ∈ R, 0 ≤ x ∧ x < S
 sound : ∀ x ∈ R, Leads K (fun s => s ∈ l ∧ 0 ≤ s ∧ s < S) x
theorem OnWay.put {K : List (Int × Int)} {S : Int} {l R : List Int} (h : OnWay K S l R) {n : Int} (h0 : 0 ≤ n ∧ n < S) (hn : Leads K (fun s => s ∈ l ∧ 0 ≤ s ∧ s < S) n) : OnWay K S l (putI R n) :=
 ⟨putI_rises h.rises, fun x hx => (putI_mem R n x).1 hx |>.elim (h.within x) (fun e => by rw [e]; exact h0), fun x hx => (putI_mem R n x).1 hx |>.elim (h.sound x) (fun e => by rw [e]; exact hn)⟩
theorem OnWay.clos {K : List (Int × Int)} {S : Int} {l R : List Int} (h : OnWay K S l R) (h1 : ∀ s ∈ l, 0 ≤ s → s < S → s ∈ R) (h2 : ∀ a b, (a, b) ∈ K → a ∈ R → b ∈ R) : IsClos K S l R :=
 ⟨h.rises, fun x => ⟨h.sound x, fun hx => by
  induction hx with
  | here hs => exact h1 _ hs.1 hs.2.1 hs.2.2
  | link _ hk ih => exact h2 _ _ hk ih⟩⟩
theorem onway_nil (K : List (Int × Int)) (S : Int) (l : List Int) : OnWay K S l [] := ⟨List.Pairwise.nil, fun x h => by simp at h, fun x h => by simp at h⟩
end Go.Proofs.YtfekpkelmliejaaGreatDoor
namespace Go.Proofs.YtfekpkelmliejaaGreatDoor
open Go.RowKit
set_option linter.unusedSimpArgs false
set_option linter.unusedVariables false
set_option maxRecDepth 100000
set_option maxHeartbeats 8000000
def RowI (w : World) (R : List Int) (v : Value) : Prop := ∃ g o c, v = .slice (some ⟨g, o, none⟩) R.length c ∧ R.length ≤ c ∧ IntsAt w (some ⟨g, o, none⟩) R ∧ g < w.heap.size
theorem RowI.below {w w' : World} {R : List Int} {v : Value} (h : RowI w R v) (hb : Below w.heap.size w w') : RowI w' R v := by
 obtain ⟨g, o, c, h1, h2, h3, h4⟩ := h
 exact ⟨g, o, c, h1, h2, h3.below hb, Nat.lt_of_lt_of_le h4 hb.size⟩
theorem rowi_made (w : World) : RowI (w.alloc (.cells #[] 3)) [] (.slice (some ⟨w.heap.size, 0, none⟩) 0 0) := ⟨_, _, _, rfl, Nat.le_refl _, fun i a h => by simp at h, by simp⟩
theorem IntsOut.row {L : List Int} {w w' : World} {e : Ending} (h : IntsOut L w e w') : ∃ v, e = .returned v ∧ Below w.heap.size w w' ∧ RowI w' L v := by
 obtain ⟨b, o, cap, h1, h2, h3, h4, h5⟩ := h
 exact ⟨_, h1, h2, b, o, cap, rfl, h3, h4, h5⟩
theorem rput_row {w : World} {R : List Int} {v : Value} (h : RowI w R v) (hl : R.length ≤ 100000000) (n : Int) : Calls Tryz.prog 79 #[v, .int .i64 n] w fun e w' => ∃ v', e = .returned v' ∧ Below w.heap.size w w' ∧ RowI w' (putI R n) v' := by
 obtain ⟨g, o, c, rfl, h2, h3, h4⟩ := h
 exact (rput17_go g o c R n w h3 hl h2 h4).mono fun e w' h => h.row
theorem rhas_row {w : World} {R : List Int} {v : Value} (h : RowI w R v) (hl : R.length ≤ 100000000) (n : Int) : Calls Tryz.prog 80 #[v, .int .i64 n] w fun e w' => e = .returned (.bool (hasI R n)) ∧ w = w' := by
 obtain ⟨g, o, c, rfl, h2, h3, h4⟩ := h
 exact rhas17_go _ c R n w h3 hl
def lenV : Value → Nat
 | .slice _ n _ => n
 | _ => 0
def bitV : Value → Nat
 | .bool true => 1
 | _ => 0
theorem RowI.len {w : World} {R : List Int} {v : Value} (h : RowI w R v) : lenV v = R.length := by obtain ⟨g, o, c, rfl, _⟩ := h; rfl
theorem rightN_states {N : NfaV} (h : rightN N = true) : 0 < N.states ∧ N.states ≤ 65536 := by
 by_cases h2 : N.states ≤ 65536 ∧ isB N.states N.start = true ∧ (N.accept.length : Int) = N.states
 ·obtain ⟨a, b, c⟩ := h2
  have := isB_iff.1 b
  omega
 ·rw [rightN_head h2] at h
  cases h
theorem rightN_links {N : NfaV} (h : rightN N = true) {p : Int × Int} (hp : p ∈ N.links) : (0 ≤ p.1 ∧ p.1 < N.states) ∧ 0 ≤ p.2 ∧ p.2 < N.states := by
 unfold rightN at h
 simp only [Bool.and_eq_true] at h
 have := List.all_eq_true.1 h.2.2.2.1 p hp
 unfold linkB at this
 rw [Bool.and_eq_true, isB_iff, isB_iff] at this
 exact this
theorem Blk.c5 {w : World} {g : Nat} {t : TypeId} {a b c d e : Value} (h : Blk w g t #[a, b, c, d, e]) : w.cell? ⟨g, 0, none⟩ = some a ∧ w.cell? ⟨g, 1, none⟩ = some b ∧ w.cell? ⟨g, 2, none⟩ = some c ∧ w.cell? ⟨g, 3, none⟩ = some d ∧ w.cell? ⟨g, 4, none⟩ = some e := ⟨h.cell 0, h.cell 1, h.cell 2, h.cell 3, h.cell 4⟩
theorem rclos17_go (N : NfaV) (A1 : Option Addr) (k1 : Nat) (A2 : Option Addr) (k2 : Nat) (A3 : Option Addr) (k3 : Nat) (w : World) (hN : NfaAt w N A1 A2 A3) (hk1 : N.links.length ≤ k1) (hR : rightN N = true) (A : Option Addr) (cap : Nat) (l : List Int) (hA : IntsAt w A l) (hlen : l.length ≤ 100000000) (hcap : l.length ≤ cap) :
  Calls Tryz.prog 30 #[.agg (nfA N A1 k1 A2 k2 A3 k3), .slice A l.length cap] w fun e w' => ∃ R v, IsClos N.links N.states l R ∧ e = .returned v ∧ Below w.heap.size w w' ∧ RowI w' R v := by
 have hb1 : Below w.heap.size w (w.alloc (.cells #[.int .i64 N.states, .int .i64 N.start, .slice A1 N.links.length k1, .slice A2 N.edges.length k2, .slice A3 N.accept.length k3] 43)) := (Below.refl _ _).alloc (Nat.le_refl _) _
 have HX := Lib.hid (Blk.new w 43 #[.int .i64 N.states, .int .i64 N.start, .slice A1 N.links.length k1, .slice A2 N.edges.length k2, .slice A3 N.accept.length k3])
 have HB := Lib.hid hb1
 have HL := Lib.hid (hN.l.below hb1)
 have HA := Lib.hid (hA.below hb1)
 have HRt := Lib.hid hR
 have hll := hN.ll
 clear hb1 hN hA hR
 unfold nfA at *
 go_enter Tryz.func30, Tryz.ntmps30
 go_upto_region 1 with fail
 generalize hg : w.heap.size = gx at *
 generalize w.alloc (.cells #[.int .i64 N.states, .int .i64 N.start, .slice A1 N.links.length k1, .slice A2 N.edges.length k2, .slice A3 N.accept.length k3] 43) = w1 at *
 have HR0 := Lib.hid (rowi_made w1)
 have HB0 := Lib.hid ((Below.refl w1.heap.size w1).alloc (Nat.le_refl _) (.cells #[] 3))
 go_wp2
 go_loopw [5, 6] (fun u i wr => ∃ (k : Nat) (R : List Int), i = .int .i64 (k : Int) ∧ k ≤ l.length ∧ Hid (OnWay N.links N.states l R) ∧ Hid (∀ (j : Nat) s, j < k → l[j]? = some s → 0 ≤ s → s < N.states → s ∈ R) ∧ Hid (RowI wr R u) ∧ Hid (Below w1.heap.size w1 wr)) (fun _ i _ => l.length - (intOf i).toNat)
 case atStart => exact ⟨0, [], rfl, Nat.zero_le _, Lib.hid (onway_nil _ _ _), Lib.hid (fun j s h => by omega), HR0, HB0⟩
 case round =>
  clear HR0 HB0
  obtain ⟨k, R, rfl, hk, HO, HK, HR, HW⟩ := hrel
  have HX2 := Lib.hid (HX.out.below HW.out HX.out.lt)
  have hR64 : R.length ≤ 65536 := by
   have h1 := rightN_states HRt.out
   have := rises_len (S := N.states.toNat) HO.out.rises (fun x hx => by have := HO.out.within x hx; omega)
   omega
  have hbs := HW.out.size
  by_cases hlt : k < l.length
  ·obtain ⟨s, hs⟩ : ∃ s, l[k]? = some s := ⟨_, List.getElem?_eq_getElem hlt⟩
   obtain ⟨b, o, rfl, hc⟩ := (HA.out.below HW.out) k s hs
   have hdl : (k : Int) < (l.length : Int) := by omega
   have hdc : (k : Int) < (cap : Int) := by omega
   have HS := Lib.hid hs
   clear hs
   obtain ⟨x0, _⟩ := HX2.out.c5
   have hlx := HX2.out.lt
   by_cases h0 : 0 ≤ s
   ·by_cases h1 : s < N.states
    ·go_wp2_with fail
     go_quiet (fail)
     have HP := Lib.hid (rput_row (w := wr.drewN nq) HR.out (by omega) s)
     have HWd := Lib.hid (bel_drewN HW.out nq)
     have HO2 := Lib.hid (HO.out.put ⟨h0, h1⟩ (.here ⟨List.mem_of_getElem? HS.out, h0, h1⟩))
     have HK2 := Lib.hid (show ∀ (j : Nat) s', j < k + 1 → l[j]? = some s' → 0 ≤ s' → s' < N.states → s' ∈ putI R s from fun j s' hj hs' h0' h1' => (putI_mem R s s').2 (by
      rcases Nat.lt_or_ge j k with h | h
      ·exact .inl (HK.out j s' h hs' h0' h1')
      ·obtain rfl : j = k := by omega
       rw [HS.out] at hs'
       cases hs'
       exact .inr rfl))
     clear HO HK HR HW
     have hcd : (wr.drewN nq).cell? ⟨b, o + k, none⟩ = some (.int .i64 s) := hc
     clear hc
     generalize wr.drewN nq = wd at *
     go_wp2_with fail
     refine HP.out.mono ?_
     rintro e w4 ⟨v4, rfl, hb4, hr4⟩
     have HR4 := Lib.hid hr4
     have HW4 := Lib.hid (HWd.out.trans (hb4.mono HWd.out.size))
     clear hb4 hr4 HP HWd hcd x0
     dsimp only
     go_wp2
     go_light
     go_roundw
     case rel => exact ⟨k + 1, _, by go_num, by omega, HO2, HK2, HR4, HW4⟩
     case measure => simp [intOf]; omega
    ·have d1 : decide (s < N.states) = false := decide_eq_false h1
     have HK2 := Lib.hid (show ∀ (j : Nat) s', j < k + 1 → l[j]? = some s' → 0 ≤ s' → s' < N.states → s' ∈ R from fun j s' hj hs' h0' h1' => by
      rcases Nat.lt_or_ge j k with h | h
      ·exact HK.out j s' h hs' h0' h1'
      ·obtain rfl : j = k := by omega
       rw [HS.out] at hs'
       cases hs'
       omega)
     go_wp2_with fail
     go_quiet (fail)
     go_wp2
     go_roundw
     case rel => exact ⟨k + 1, R, by go_num, by omega, HO, HK2, HR, Lib.hid (bel_drewN HW.out _)⟩
     case measure => simp [intOf]; omega
   ·have d0 : decide (0 ≤ s) = false := decide_eq_false h0
    have HK2 := Lib.hid (show ∀ (j : Nat) s', j < k + 1 → l[j]? = some s' → 0 ≤ s' → s' < N.states → s' ∈ R from fun j s' hj hs' h0' h1' => by
     rcases Nat.lt_or_ge j k with h | h
     ·exact HK.out j s' h hs' h0' h1'
     ·obtain rfl : j = k := by omega
      rw [HS.out] at hs'
      cases hs'
      omega)
    go_wp2_with fail
    go_quiet (fail)
    go_wp2
    go_roundw
    case rel => exact ⟨k + 1, R, by go_num, by omega, HO, HK2, HR, Lib.hid (bel_drewN HW.out _)⟩
    case measure => simp [intOf]; omega
  ·have hdl : ¬ (k : Int) < (l.length : Int) := by omega
   obtain rfl : k = l.length := by omega
   have HIn := Lib.hid (show ∀ s ∈ l, 0 ≤ s → s < N.states → s ∈ R from fun s hs h0 h1 => by
    obtain ⟨j, hj, rfl⟩ := List.mem_iff_getElem.1 hs
    exact HK.out j _ hj (List.getElem?_eq_getElem hj) h0 h1)
   clear HK
   go_wp2
   go_loopw [5, 7, 8] (fun u m i wq => ∃ (R : List Int) (mb : Bool), m = .bool mb ∧ Hid (OnWay N.links N.states l R) ∧ Hid (∀ s ∈ l, 0 ≤ s → s < N.states → s ∈ R) ∧ Hid (mb = false → ∀ a b, (a, b) ∈ N.links → a ∈ R → b ∈ R) ∧ Hid (RowI wq R u) ∧ Hid (Below w1.heap.size w1 wq)) (fun u m _ _ => 2 * (N.states.toNat - lenV u) + bitV m)
   case atStart => exact ⟨R, true, rfl, HO, HIn, Lib.hid (fun h => by cases h), HR, HW⟩
   case round =>
    clear HO HIn HR HW HX2
    obtain ⟨R, mb, rfl, HO, HIn, HC, HR, HW⟩ := hrel
    have hR64 : R.length ≤ N.states.toNat := rises_len HO.out.rises (fun x hx => by have := HO.out.within x hx; omega)
    have hS := rightN_states HRt.out
    have hlv := HR.out.len
    cases mb with
    | false =>
     have HF := Lib.hid (HO.out.clos HIn.out (HC.out rfl))
     go_wp2
     go_light
     have HZ := Lib.hid (HB.out.trans (HW.out.mono (Nat.le_of_lt HX.out.lt)))
     go_ret
     exact ⟨R, HF.out, _, rfl, HZ.out, HR.out⟩
    | true =>
     have HR0 := HR
     have HW0 := HW
     have HO0 := HO
     have HIn0 := HIn
     clear HC
     go_wp2
     go_loopw [5, 7, 8] (fun u m i wq => ∃ (k : Nat) (T : List Int) (mb : Bool), i = .int .i64 (k : Int) ∧ m = .bool mb ∧ k ≤ N.links.length ∧ R.length ≤ T.length ∧ (mb = true → R.length < T.length) ∧ Hid (OnWay N.links N.states l T) ∧ Hid (∀ s ∈ l, 0 ≤ s → s < N.states → s ∈ T) ∧ Hid (mb = false → T = R ∧ ∀ (j : Nat) a b, j < k → N.links[j]? = some (a, b) → a ∈ R → b ∈ R) ∧ Hid (RowI wq T u) ∧ Hid (Below w1.heap.size w1 wq)) (fun _ _ i _ => N.links.length - (intOf i).toNat)
     case atStart => exact ⟨0, R, false, rfl, rfl, Nat.zero_le _, Nat.le_refl _, fun h => (by cases h), HO, HIn, Lib.hid (fun _ => ⟨rfl, fun j a b h => by omega⟩), HR, HW⟩
     case round =>
      clear HO HIn HR HW
      obtain ⟨k, T, mb, rfl, rfl, hk, hRT, hmT, HO, HIn, HC, HR, HW⟩ := hrel
      have hT64 : T.length ≤ N.states.toNat := rises_len HO.out.rises (fun x hx => by have := HO.out.within x hx; omega)
      have HX2 := Lib.hid (HX.out.below HW.out HX.out.lt)
      obtain ⟨_, _, x2, _⟩ := HX2.out.c5
      have hlx := HX2.out.lt
      by_cases hlt : k < N.links.length
      ·obtain ⟨⟨a, d⟩, hp⟩ : ∃ p, N.links[k]? = some p := ⟨_, List.getElem?_eq_getElem hlt⟩
       obtain ⟨b, o, rfl, c0, c1⟩ := (HL.out.below HW.out) k (a, d) hp
       have hmem := List.mem_of_getElem? hp
       have hrg := rightN_links HRt.out hmem
       have hdl : (k : Int) < (N.links.length : Int) := by omega
       have hdk : (k : Int) < (k1 : Int) := by omega
       have HA1 := Lib.hid (rhas_row HR.out (by omega) a)
       have HD1 := Lib.hid (rhas_row HR.out (by omega) d)
       have HP := Lib.hid hp
       have HM := Lib.hid hmem
       have HG := Lib.hid hrg
       clear hp hmem hrg
       cases ha : hasI T a with
       | false =>
        rw [ha] at HA1
        have HN := Lib.hid ha
        clear ha HD1
        go_wp2_with fail
        refine HA1.out.mono ?_
        rintro e w4 ⟨rfl, rfl⟩
        dsimp only
        go_wp2
        go_roundw
        case rel => exact ⟨k + 1, T, mb, by go_num, rfl, by omega, hRT, hmT, HO, HIn, Lib.hid (fun h => ⟨(HC.out h).1, fun j x y hj hx hR => by
         rcases Nat.lt_or_ge j k with h2 | h2
         ·exact (HC.out h).2 j x y h2 hx hR
         ·obtain rfl : j = k := by omega
          rw [HP.out] at hx
          cases hx
          rw [← (HC.out h).1] at hR
          have := hasI_iff.2 hR
          rw [HN.out] at this
          cases this⟩), HR, HW⟩
        case measure => simp [intOf]; omega
       | true =>
        rw [ha] at HA1
        have HY := Lib.hid (hasI_iff.1 ha)
        clear ha
        cases hd : hasI T d with
        | true =>
         rw [hd] at HD1
         have HY2 := Lib.hid (hasI_iff.1 hd)
         clear hd
         go_wp2_with fail
         refine HA1.out.mono ?_
         rintro e w4 ⟨rfl, rfl⟩
         dsimp only
         go_wp2_with fail
         refine HD1.out.mono ?_
         rintro e w4 ⟨rfl, rfl⟩
         dsimp only
         go_wp2
         go_roundw
         case rel => exact ⟨k + 1, T, mb, by go_num, rfl, by omega, hRT, hmT, HO, HIn, Lib.hid (fun h => ⟨(HC.out h).1, fun j x y hj hx hR => by
          rcases Nat.lt_or_ge j k with h2 | h2
          ·exact (HC.out h).2 j x y h2 hx hR
          ·obtain rfl : j = k := by omega
           rw [HP.out] at hx
           cases hx
           rw [← (HC.out h).1]
           exact HY2.out⟩), HR, HW⟩
         case measure => simp [intOf]; omega
        | false =>
         rw [hd] at HD1
         have HU := Lib.hid (rput_row HR.out (by omega) d)
         have HO2 := Lib.hid (HO.out.put HG.out.2 (.link (HO.out.sound a HY.out) HM.out))
         have hmore := putI_more (L := T) (n := d) (fun h => by rw [hasI_iff.2 h] at hd; cases hd)
         have HIn2 := Lib.hid (show ∀ s ∈ l, 0 ≤ s → s < N.states → s ∈ putI T d from fun s hs h0 h1 => (putI_mem T d s).2 (.inl (HIn.out s hs h0 h1)))
         clear hd HIn HO HC
         go_wp2_with fail
         refine HA1.out.mono ?_
         rintro e w4 ⟨rfl, rfl⟩
         dsimp only
         go_wp2_with fail
         refine HD1.out.mono ?_
         rintro e w4 ⟨rfl, rfl⟩
         dsimp only
         go_wp2_with fail
         refine HU.out.mono ?_
         rintro e w5 ⟨v5, rfl, hb5, hr5⟩
         have HR5 := Lib.hid hr5
         have HW5 := Lib.hid (HW.out.trans (hb5.mono HW.out.size))
         clear hb5 hr5 HR HW c0 c1 x2 HX2
         dsimp only
         go_wp2
         go_light
         go_roundw
         case rel => exact ⟨k + 1, putI T d, true, by go_num, rfl, by omega, by omega, fun _ => by omega, HO2, HIn2, Lib.hid (fun h => (by cases h)), HR5, HW5⟩
         case measure => simp [intOf]; omega
      ·have hdl : ¬ (k : Int) < (N.links.length : Int) := by omega
       obtain rfl : k = N.links.length := by omega
       have hlv2 := HR.out.len
       go_wp2
       go_roundw
       case rel => exact ⟨T, mb, rfl, HO, HIn, Lib.hid (fun h a b hm ha => by
        obtain ⟨h1, h2⟩ := HC.out h
        rw [h1] at ha ⊢
        obtain ⟨j, hj, e⟩ := List.mem_iff_getElem.1 hm
        exact h2 j a b hj (by rw [List.getElem?_eq_getElem hj, e]) ha), HR, HW⟩
       case measure =>
        rw [hlv, hlv2]
        cases mb with
        | false =>
         have := (HC.out rfl).1
         subst this
         show 2 * (N.states.toNat - T.length) + 0 < 2 * (N.states.toNat - T.length) + 1
         omega
        | true =>
         have := hmT rfl
         show 2 * (N.states.toNat - T.length) + 1 < 2 * (N.states.toNat - R.length) + 1
         omega
def ListOut (P : List Int → Prop) (w : World) (e : Ending) (w' : World) : Prop := ∃ R v, P R ∧ e = .returned v ∧ Below w.heap.size w w' ∧ RowI w' R v
theorem IsClos.mem {K : List (Int × Int)} {S : Int} {l m R : List Int} (h : IsClos K S l R) (hm : ∀ x, x ∈ l ↔ x ∈ m) : IsClos K S m R :=
 ⟨h.1, fun x => (h.2 x).trans ⟨fun hx => by
  induction hx with
  | here hs => exact .here ⟨(hm _).1 hs.1, hs.2⟩
  | link _ hk ih => exact .link ih hk, fun hx => by
  induction hx with
  | here hs => exact .here ⟨(hm _).2 hs.1, hs.2⟩
  | link _ hk ih => exact .link ih hk⟩⟩
theorem rstart17_go (N : NfaV) (A1 : Option Addr) (k1 : Nat) (A2 : Option Addr) (k2 : Nat) (A3 : Option Addr) (k3 : Nat) (w : World) (hN : NfaAt w N A1 A2 A3) (hk1 : N.links.length ≤ k1) (hR : rightN N = true) : Calls Tryz.prog 36 #[.agg (nfA N A1 k1 A2 k2 A3 k3)] w (ListOut (IsClos N.links N.states [N.start]) w) := by
 have hb1 : Below w.heap.size w (w.alloc (.cells #[.int .i64 N.states, .int .i64 N.start, .slice A1 N.links.length k1, .slice A2 N.edges.length k2, .slice A3 N.accept.length k3] 43)) := (Below.refl _ _).alloc (Nat.le_refl _) _
 have HX := Lib.hid (Blk.new w 43 #[.int .i64 N.states, .int .i64 N.start, .slice A1 N.links.length k1, .slice A2 N.edges.length k2, .slice A3 N.accept.length k3])
 have HB := Lib.hid hb1
 have HN := Lib.hid (hN.below hb1)
 unfold nfA at *
 go_enter Tryz.func36, Tryz.ntmps36
 go_upto_region 1 with fail
 generalize hg : w.heap.size = gx at *
 generalize w.alloc (.cells #[.int .i64 N.states, .int .i64 N.start, .slice A1 N.links.length k1, .slice A2 N.edges.length k2, .slice A3 N.accept.length k3] 43) = w1 at *
 obtain ⟨x0, x1, x2, x3, x4⟩ := HX.out.c5
 have hlx := HX.out.lt
 have hb2 : Below w1.heap.size w1 (w1.alloc (.cells #[.int .i64 N.start] 3)) := (Below.refl _ _).alloc (Nat.le_refl _) _
 have hC := rclos17_go N A1 k1 A2 k2 A3 k3 _ (HN.out.below hb2) hk1 hR (some ⟨w1.heap.size, 0, none⟩) 1 [N.start] (one_int w1 N.start) (by simp) (by simp)
 have HC := Lib.hid hC
 have HB2 := Lib.hid (HB.out.trans (hb2.mono (Nat.le_of_lt hlx)))
 clear hC hb2
 unfold nfA at HC
 go_wp2_with fail
 refine HC.out.mono ?_
 rintro e w3 ⟨R, v, hcl, rfl, hb3, hr3⟩
 have HR := Lib.hid (show _ ∧ _ ∧ _ from ⟨hcl, HB2.out.trans (hb3.mono (by have := HB2.out.size; omega)), hr3⟩)
 clear hcl hb3 hr3 HC HB2 x0 x1 x2 x3 x4
 dsimp only
 go_wp2
 go_light
 go_ret
 exact ⟨R, v, HR.out.1, rfl, by rw [hg]; exact HR.out.2.1, HR.out.2.2⟩
def StepTo (N : NfaV) (l : List Int) (b : Nat) (s : Int) : Prop := ∃ p ∈ N.edges, p.1 ∈ l ∧ p.2.1.testBit b = true ∧ p.2.2 = s
def IsStep (N : NfaV) (l : List Int) (b : Nat) (R : List Int) : Prop := ∃ O, (∀ s, s ∈ O ↔ StepTo N l b s) ∧ IsClos N.links N.states O R
theorem step_one {N : NfaV} {l m : List Int} {b : Nat} {R T : List Int} (h : IsStep N l b R) (hm : ∀ x, x ∈ l ↔ x ∈ m) (h2 : IsStep N m b T) : R = T := by
 obtain ⟨O, h3, h4⟩ := h
 obtain ⟨O2, h5, h6⟩ := h2
 refine clos_one (h4.mem fun x => ?_) h6
 rw [h3, h5]
 exact ⟨fun ⟨p, a, c, d⟩ => ⟨p, a, (hm _).1 c, d⟩, fun ⟨p, a, c, d⟩ => ⟨p, a, (hm _).2 c, d⟩⟩
theorem rightN_edges {N : NfaV} (h : rightN N = true) {p : Int × Nat × Int} (hp : p ∈ N.edges) : (0 ≤ p.1 ∧ p.1 < N.states) ∧ 0 ≤ p.2.2 ∧ p.2.2 < N.states := by
 unfold rightN at h
 simp only [Bool.and_eq_true] at h
 have := List.all_eq_true.1 h.2.2.2.2.1 p hp
 unfold edgeB at this
 rw [Bool.and_eq_true, isB_iff, isB_iff] at this
 exact this
theorem rstep17_go (N : NfaV) (A1 : Option Addr) (k1 : Nat) (A2 : Option Addr) (k2 : Nat) (A3 : Option Addr) (k3 : Nat) (w : World) (hN : NfaAt w N A1 A2 A3) (hk1 : N.links.length ≤ k1) (hR : rightN N = true) (hk2 : N.edges.length ≤ k2) (A : Option Addr) (cap : Nat) (l : List Int) (hA : IntsAt w A l) (hlen : l.length ≤ 100000000) (hcap : l.length ≤ cap) (b : Nat) (hb : b < 256) :
  Calls Tryz.prog 32 #[.agg (nfA N A1 k1 A2 k2 A3 k3), .slice A l.length cap, .int .u8 (b : Int)] w (ListOut (IsStep N l b) w) := by
 have hb1 : Below w.heap.size w (w.alloc (.cells #[.int .i64 N.states, .int .i64 N.start, .slice A1 N.links.length k1, .slice A2 N.edges.length k2, .slice A3 N.accept.length k3] 43)) := (Below.refl _ _).alloc (Nat.le_refl _) _
 have HX := Lib.hid (Blk.new w 43 #[.int .i64 N.states, .int .i64 N.start, .slice A1 N.links.length k1, .slice A2 N.edges.length k2, .slice A3 N.accept.length k3])
 have HB := Lib.hid hb1
 have HN := Lib.hid (hN.below hb1)
 have HA := Lib.hid (hA.below hb1)
 have HRt := Lib.hid hR
 have hel := hN.el
 clear hb1 hN hA hR
 unfold nfA at *
 go_enter Tryz.func32, Tryz.ntmps32
 go_upto_region 1 with fail
 generalize hg : w.heap.size = gx at *
 generalize w.alloc (.cells #[.int .i64 N.states, .int .i64 N.start, .slice A1 N.links.length k1, .slice A2 N.edges.length k2, .slice A3 N.accept.length k3] 43) = w1 at *
 have HR0 := Lib.hid (rowi_made w1)
 have HB0 := Lib.hid ((Below.refl w1.heap.size w1).alloc (Nat.le_refl _) (.cells #[] 3))
 go_wp2
 go_loopw [7, 8] (fun u i wr => ∃ (k : Nat) (O : List Int), i = .int .i64 (k : Int) ∧ k ≤ N.edges.length ∧ Hid (Rises O) ∧ Hid (∀ s, s ∈ O ↔ ∃ (j : Nat) (p : Int × Nat × Int), j < k ∧ N.edges[j]? = some p ∧ p.1 ∈ l ∧ p.2.1.testBit b = true ∧ p.2.2 = s) ∧ Hid (RowI wr O u) ∧ Hid (Below w1.heap.size w1 wr)) (fun _ i _ => N.edges.length - (intOf i).toNat)
 case atStart => exact ⟨0, [], rfl, Nat.zero_le _, Lib.hid List.Pairwise.nil, Lib.hid (fun s => ⟨fun h => (by simp at h), fun ⟨j, _, h, _⟩ => (by omega)⟩), HR0, HB0⟩
 case round =>
  clear HR0 HB0
  obtain ⟨k, O, rfl, hk, HO, HK, HR, HW⟩ := hrel
  have HX2 := Lib.hid (HX.out.below HW.out HX.out.lt)
  obtain ⟨x0, x1, x2, x3, x4⟩ := HX2.out.c5
  have hlx := HX2.out.lt
  have hO64 : O.length ≤ 65536 := by
   have h1 := rightN_states HRt.out
   have := rises_len (S := N.states.toNat) HO.out (fun x hx => by
    obtain ⟨j, p, _, h2, _, _, rfl⟩ := (HK.out x).1 hx
    have := rightN_edges HRt.out (List.mem_of_getElem? h2)
    omega)
   omega
  by_cases hlt : k < N.edges.length
  ·obtain ⟨⟨f, z, t⟩, hp⟩ : ∃ p, N.edges[k]? = some p := ⟨_, List.getElem?_eq_getElem hlt⟩
   obtain ⟨c, o, rfl, c0, c1, c2, c3, c4, c5⟩ := (HN.out.below HW.out).e k (f, z, t) hp
   have hdl : (k : Int) < (N.edges.length : Int) := by omega
   have hdk : (k : Int) < (k2 : Int) := by omega
   have HP := Lib.hid hp
   have HA1 := Lib.hid (rhas17_go A cap l f wr (HA.out.below HW.out) hlen)
   clear hp
   dsimp only at c0 c1 c2 c3 c4 c5
   cases hf : hasI l f with
   | false =>
    rw [hf] at HA1
    have HF := Lib.hid hf
    clear hf
    go_wp2_with fail
    refine HA1.out.mono ?_
    rintro e w4 ⟨rfl, rfl⟩
    dsimp only
    go_wp2
    go_roundw
    case rel => exact ⟨k + 1, O, by go_num, by omega, HO, Lib.hid (fun s => (HK.out s).trans ⟨fun ⟨j, p, h1, h2⟩ => ⟨j, p, by omega, h2⟩, fun ⟨j, p, h1, h2, h3, h4⟩ => by
     rcases Nat.lt_or_ge j k with h | h
     ·exact ⟨j, p, h, h2, h3, h4⟩
     ·obtain rfl : j = k := by omega
      rw [HP.out] at h2
      cases h2
      have := hasI_iff.2 h3
      rw [HF.out] at this
      cases this⟩), HR, HW⟩
    case measure => simp [intOf]; omega
   | true =>
    rw [hf] at HA1
    have HF := Lib.hid (hasI_iff.1 hf)
    have hH := rhas_any z.testBit (b : Int) wr (by omega) (by omega)
    rw [Int.toNat_natCast] at hH
    have HH := Lib.hid hH
    clear hH
    clear hf
    go_wp2_with fail
    refine HA1.out.mono ?_
    rintro e w4 ⟨rfl, rfl⟩
    dsimp only
    go_wp2_with fail
    refine HH.out.mono ?_
    rintro e w5 ⟨rfl, hb5⟩
    have HW5 := Lib.hid (HW.out.trans (hb5.mono HW.out.size))
    have HR5 := Lib.hid (HR.out.below hb5)
    have HX5 := Lib.hid (HX2.out.below hb5 HX2.out.lt)
    clear hb5 HH x0 x1 x2 x3 x4 c0 c1 c2 c3 c4 c5
    obtain ⟨x0, x1, x2, x3, x4⟩ := HX5.out.c5
    obtain ⟨c', o', e', _, _, _, _, _, c5⟩ := (HN.out.below HW5.out).e k (f, z, t) HP.out
    obtain ⟨rfl, rfl⟩ : c = c' ∧ o = o' := by
     have := Option.some.inj e'
     injection this with h1 h2 h3
     exact ⟨h1, h2⟩
    clear e'
    dsimp only at c5
    have hlx5 := HX5.out.lt
    cases hz : z.testBit b with
    | false =>
     have HZ := Lib.hid hz
     clear hz
     dsimp only
     go_wp2
     go_roundw
     case rel => exact ⟨k + 1, O, by go_num, by omega, HO, Lib.hid (fun s => (HK.out s).trans ⟨fun ⟨j, p, h1, h2⟩ => ⟨j, p, by omega, h2⟩, fun ⟨j, p, h1, h2, h3, h4, h5⟩ => by
      rcases Nat.lt_or_ge j k with h | h
      ·exact ⟨j, p, h, h2, h3, h4, h5⟩
      ·obtain rfl : j = k := by omega
       rw [HP.out] at h2
       cases h2
       have h6 : z.testBit b = true := h4
       rw [HZ.out] at h6
       cases h6⟩), HR5, HW5⟩
     case measure => simp [intOf]; omega
    | true =>
     have HZ := Lib.hid hz
     have HU := Lib.hid (rput_row HR5.out (by omega) t)
     clear hz
     dsimp only
     go_wp2_with fail
     refine HU.out.mono ?_
     rintro e w6 ⟨v6, rfl, hb6, hr6⟩
     have HR6 := Lib.hid hr6
     have HW6 := Lib.hid (HW5.out.trans (hb6.mono HW5.out.size))
     clear hb6 hr6 HU x0 x1 x2 x3 x4 c5
     dsimp only
     go_wp2
     go_roundw
     case rel => exact ⟨k + 1, putI O t, by go_num, by omega, Lib.hid (putI_rises HO.out), Lib.hid (fun s => (putI_mem O t s).trans ⟨fun h => by
      rcases h with h | rfl
      ·obtain ⟨j, p, h1, h2⟩ := (HK.out s).1 h
       exact ⟨j, p, by omega, h2⟩
      ·exact ⟨k, (f, z, s), by omega, HP.out, HF.out, HZ.out, rfl⟩, fun ⟨j, p, h1, h2, h3, h4, h5⟩ => by
      rcases Nat.lt_or_ge j k with h | h
      ·exact .inl ((HK.out s).2 ⟨j, p, h, h2, h3, h4, h5⟩)
      ·obtain rfl : j = k := by omega
       rw [HP.out] at h2
       cases h2
       exact .inr h5.symm⟩), HR6, HW6⟩
     case measure => simp [intOf]; omega
  ·have hdl : ¬ (k : Int) < (N.edges.length : Int) := by omega
   obtain rfl : k = N.edges.length := by omega
   have HS := Lib.hid (show ∀ s, s ∈ O ↔ StepTo N l b s from fun s => (HK.out s).trans ⟨fun ⟨j, p, h1, h2, h3⟩ => ⟨p, List.mem_of_getElem? h2, h3⟩, fun ⟨p, h1, h2⟩ => by
    obtain ⟨j, hj, rfl⟩ := List.mem_iff_getElem.1 h1
    exact ⟨j, _, hj, List.getElem?_eq_getElem hj, h2⟩⟩)
   obtain ⟨g, og, cg, rfl, hcg, hig, hgl⟩ := HR.out
   have hC := rclos17_go N A1 k1 A2 k2 A3 k3 wr (HN.out.below HW.out) hk1 HRt.out (some ⟨g, og, none⟩) cg O hig (by omega) hcg
   unfold nfA at hC
   have HC := Lib.hid hC
   have HZ := Lib.hid (HB.out.trans (HW.out.mono (Nat.le_of_lt HX.out.lt)))
   clear hC hig HK HR
   go_wp2_with fail
   refine HC.out.mono ?_
   rintro e w3 ⟨R, v, hcl, rfl, hb3, hr3⟩
   have HF := Lib.hid (show _ ∧ _ ∧ _ from ⟨(⟨O, HS.out, hcl⟩ : IsStep N l b R), HZ.out.trans (hb3.mono (by have := HZ.out.size; omega)), hr3⟩)
   clear hcl hb3 hr3 HC HZ x0 x1 x2 x3 x4
   dsimp only
   go_wp2
   go_light
   go_ret
   exact ⟨R, v, HF.out.1, rfl, by rw [hg]; exact HF.out.2.1, HF.out.2.2⟩
inductive RunOf (N : NfaV) : List Nat → List Int → Prop
 | nil {R : List Int} : IsClos N.links N.states [N.start] R → RunOf N [] R
 | snoc {v : List Nat} {b : Nat} {L R : List Int} : RunOf N v L → IsStep N L b R → RunOf N (v ++ [b]) R
theorem run_last {N : NfaV} : ∀ {u : List Nat} {R : List Int}, RunOf N u R → (u = [] ∧ IsClos N.links N.states [N.start] R) ∨ ∃ v b L, u = v ++ [b] ∧ RunOf N v L ∧ IsStep N L b R
 | _, _, .nil h => .inl ⟨rfl, h⟩
 | _, _, .snoc h h2 => .inr ⟨_, _, _, rfl, h, h2⟩
theorem run_one {N : NfaV} {u : List Nat} {R : List Int} (h : RunOf N u R) : ∀ {T : List Int}, RunOf N u T → R = T := by
 induction h with
 | nil h1 =>
  intro T h2
  rcases run_last h2 with ⟨_, h3⟩ | ⟨v, b, L, e, _⟩
  ·exact clos_one h1 h3
  ·simp at e
 | snoc h1 hs ih =>
  intro T h2
  rcases run_last h2 with ⟨e, _⟩ | ⟨v, b, L, e, h3, h4⟩
  ·simp at e
  ·obtain ⟨rfl, e2⟩ := List.append_inj' e rfl
   cases e2
   have := ih h3
   subst this
   exact step_one hs (fun _ => Iff.rfl) h4
theorem isclos_len {N : NfaV} {l R : List Int} (hR : rightN N = true) (h : IsClos N.links N.states l R) : R.length ≤ 65536 := by
 have h1 := rightN_states hR
 have h2 : ∀ x, Leads N.links (fun s => s ∈ l ∧ 0 ≤ s ∧ s < N.states) x → 0 ≤ x ∧ x < N.states := fun x hx => by
  induction hx with
  | here hs => exact hs.2
  | link _ hk _ => exact (rightN_links hR hk).2
 have := rises_len (S := N.states.toNat) h.1 (fun x hx => by have := h2 x ((h.2 x).1 hx); omega)
 omega
theorem runof_len {N : NfaV} {u : List Nat} {R : List Int} (hR : rightN N = true) (h : RunOf N u R) : R.length ≤ 65536 := by
 rcases run_last h with ⟨_, h1⟩ | ⟨_, _, _, _, _, O, _, h1⟩
 ·exact isclos_len hR h1
 ·exact isclos_len hR h1
theorem rrun17_go (N : NfaV) (A1 : Option Addr) (k1 : Nat) (A2 : Option Addr) (k2 : Nat) (A3 : Option Addr) (k3 : Nat) (w : World) (hN : NfaAt w N A1 A2 A3) (hk1 : N.links.length ≤ k1) (hR : rightN N = true) (hk2 : N.edges.length ≤ k2) (A : Option Addr) (cap : Nat) (bs : List Nat) (hA : BytesAt w w.heap.size A bs) (hcap : bs.length ≤ cap) :
  Calls Tryz.prog 38 #[.agg (nfA N A1 k1 A2 k2 A3 k3), .slice A bs.length cap] w (ListOut (RunOf N bs) w) := by
 have hb1 : Below w.heap.size w (w.alloc (.cells #[.int .i64 N.states, .int .i64 N.start, .slice A1 N.links.length k1, .slice A2 N.edges.length k2, .slice A3 N.accept.length k3] 43)) := (Below.refl _ _).alloc (Nat.le_refl _) _
 have HX := Lib.hid (Blk.new w 43 #[.int .i64 N.states, .int .i64 N.start, .slice A1 N.links.length k1, .slice A2 N.edges.length k2, .slice A3 N.accept.length k3])
 have HB := Lib.hid hb1
 have HN := Lib.hid (hN.below hb1)
 have HA := Lib.hid ((hA.below hb1).more hb1.size)
 have HRt := Lib.hid hR
 have HS := Lib.hid (rstart17_go N A1 k1 A2 k2 A3 k3 _ (hN.below hb1) hk1 hR)
 have h140 := hA.2.1
 clear hb1 hN hA hR
 unfold nfA at *
 go_enter Tryz.func38, Tryz.ntmps38
 go_upto_region 1 with fail
 generalize hg : w.heap.size = gx at *
 generalize w.alloc (.cells #[.int .i64 N.states, .int .i64 N.start, .slice A1 N.links.length k1, .slice A2 N.edges.length k2, .slice A3 N.accept.length k3] 43) = w1 at *
 obtain ⟨x0, x1, x2, x3, x4⟩ := HX.out.c5
 have hlx := HX.out.lt
 go_wp2_with fail
 refine HS.out.mono ?_
 rintro e w2 ⟨R0, v0, hr0, rfl, hb2, hrow0⟩
 have HR0 := Lib.hid (RunOf.nil hr0)
 have HW0 := Lib.hid hb2
 have HV0 := Lib.hid hrow0
 clear hr0 hb2 hrow0 HS x0 x1 x2 x3 x4 hlx
 dsimp only
 go_wp2
 go_loopw [5, 6] (fun u i wr => ∃ (k : Nat) (L : List Int), i = .int .i64 (k : Int) ∧ k ≤ bs.length ∧ Hid (RunOf N (bs.take k) L) ∧ Hid (RowI wr L u) ∧ Hid (Below w1.heap.size w1 wr)) (fun _ i _ => bs.length - (intOf i).toNat)
 case atStart => exact ⟨0, R0, rfl, Nat.zero_le _, HR0, HV0, HW0⟩
 case round =>
  clear HR0 HV0 HW0
  obtain ⟨k, L, rfl, hk, HL, HR, HW⟩ := hrel
  have hX2 := HX.out.below HW.out HX.out.lt
  obtain ⟨x0, x1, x2, x3, x4⟩ := hX2.c5
  have hlx := hX2.lt
  have hL64 := runof_len HRt.out HL.out
  by_cases hlt : k < bs.length
  ·obtain ⟨c, hc⟩ : ∃ c, bs[k]? = some c := ⟨_, List.getElem?_eq_getElem hlt⟩
   have hA2 := HA.out.below HW.out
   obtain ⟨b, o, rfl, hbl, hcell⟩ := hA2.2.2 (by omega)
   have hck := hcell k hlt
   have hbk : byteAt bs k = c := by unfold byteAt; rw [List.getD_eq_getElem?_getD, hc]; rfl
   rw [hbk] at hck
   have hc256 := HA.out.1 c (List.mem_of_getElem? hc)
   have hbw : b < wr.heap.size := World.block_lt_of_cell? wr _ hck
   have hdl : (k : Int) < (bs.length : Int) := by omega
   have hdc : (k : Int) < (cap : Int) := by omega
   have HTk := Lib.hid (show bs.take (k + 1) = bs.take k ++ [c] by rw [List.take_add_one, hc]; rfl)
   obtain ⟨g, og, cg, rfl, hcg, hig, hgl⟩ := HR.out
   have hst := rstep17_go N A1 k1 A2 k2 A3 k3 wr.drew ((HN.out.below HW.out).below (Below.refl _ _).drew) hk1 HRt.out hk2 (some ⟨g, og, none⟩) cg L (hig.below (Below.refl _ _).drew) (by omega) hcg c hc256
   unfold nfA at hst
   have HSt := Lib.hid hst
   clear hst hX2 hA2 hcell hc hbk hig HR
   go_upto_region 5 with fail
   refine wp_region_held_drew (S := fun w' => ∀ b' o', b' < wr.heap.size → w'.cell? ⟨b', o', none⟩ = wr.cell? ⟨b', o', none⟩) (by kernel_rfl) (KeepP.start (fun b' => b' < wr.heap.size) wr) (fun hHeld => ?_)
   refine wpAnyH_take (i := 0) (oi := _) (v := ?_) rfl (by kernel_rfl) (by kernel_rfl) (by kernel_rfl) (fun _ _ _ h => h) (Or.inl ⟨by kernel_rfl, ?_⟩) (by assumption) ?_
   rotate_left
   ·intro w hSw
    try dsimp only at hSw
    go_simp
    try (with_reducible rfl)
   try simp only [Act.put, List.getElem_toArray, List.getElem_cons_zero, List.getElem_cons_succ, List.setIfInBounds_toArray, List.set_cons_zero, List.set_cons_succ]
   refine wpAnyH_take (i := 1) (oi := _) (v := ?_) rfl (by kernel_rfl) (by kernel_rfl) (by kernel_rfl) (fun _ _ _ h => h) (Or.inl ⟨by kernel_rfl, ?_⟩) (by assumption) ?_
   rotate_left
   ·intro w hSw
    try dsimp only at hSw
    go_simp
    try (with_reducible rfl)
   try simp only [Act.put, List.getElem_toArray, List.getElem_cons_zero, List.getElem_cons_succ, List.setIfInBounds_toArray, List.set_cons_zero, List.set_cons_succ]
   refine wpAnyH_take (i := 2) (oi := _) (v := ?_) rfl (by kernel_rfl) (by kernel_rfl) (by kernel_rfl) (fun _ _ _ h => h) (Or.inl ⟨by kernel_rfl, ?_⟩) (by assumption) ?_
   rotate_left
   ·intro w hSw
    try dsimp only at hSw
    go_simp
    try (with_reducible rfl)
   try simp only [Act.put, List.getElem_toArray, List.getElem_cons_zero, List.getElem_cons_succ, List.setIfInBounds_toArray, List.set_cons_zero, List.set_cons_succ]
   refine wpAnyH_take (i := 3) (oi := _) (v := ?_) rfl (by kernel_rfl) (by kernel_rfl) (by kernel_rfl) (fun _ _ _ h => h) (Or.inl ⟨by kernel_rfl, ?_⟩) (by assumption) ?_
   rotate_left
   ·intro w hSw
    try dsimp only at hSw
    go_simp
    try (with_reducible rfl)
   try simp only [Act.put, List.getElem_toArray, List.getElem_cons_zero, List.getElem_cons_succ, List.setIfInBounds_toArray, List.set_cons_zero, List.set_cons_succ]
   refine wpAnyH_take (i := 4) (oi := _) (v := ?_) rfl (by kernel_rfl) (by kernel_rfl) (by kernel_rfl) (fun _ _ _ h => h) (Or.inl ⟨by kernel_rfl, ?_⟩) (by assumption) ?_
   rotate_left
   ·intro w hSw
    try dsimp only at hSw
    go_simp
    try (with_reducible rfl)
   try simp only [Act.put, List.getElem_toArray, List.getElem_cons_zero, List.getElem_cons_succ, List.setIfInBounds_toArray, List.set_cons_zero, List.set_cons_succ]
   refine wpAnyH_take (i := 5) (oi := _) (v := ?_) rfl (by kernel_rfl) (by kernel_rfl) (by kernel_rfl) (fun _ _ _ h => h) (Or.inl ⟨by kernel_rfl, ?_⟩) (by assumption) ?_
   rotate_left
   ·intro w hSw
    try dsimp only at hSw
    go_simp
    try (with_reducible rfl)
   try simp only [Act.put, List.getElem_toArray, List.getElem_cons_zero, List.getElem_cons_succ, List.setIfInBounds_toArray, List.set_cons_zero, List.set_cons_succ]
   refine wpAnyH_ready (rs := [6]) (by kernel_rfl) (by simp) ?_
   refine AllReadyH.cons (o := _) rfl (fun K hK => ?_) AllReadyH.nil
   go_simp
   go_at_call 32
   refine HSt.out.mono ?_
   rintro e w4 ⟨R, v4, hst, rfl, hb4, hr4⟩
   have hs4 : ∀ b' o', b' < wr.heap.size → w4.cell? ⟨b', o', none⟩ = wr.cell? ⟨b', o', none⟩ := fun b' o' e => hb4.cell (p := ⟨b', o', none⟩) e
   have HL4 := Lib.hid (RunOf.snoc HL.out hst)
   have HR4 := Lib.hid hr4
   have HW4 := Lib.hid (HW.out.trans (((Below.refl wr.heap.size wr).drew.trans hb4).mono HW.out.size))
   clear hst hr4 hb4 HL HW
   refine hK.out _ _ hs4 (fun _ => ?_)
   clear hK K HSt
   try simp only [Act.put, List.getElem_toArray, List.getElem_cons_zero, List.getElem_cons_succ, List.setIfInBounds_toArray, List.set_cons_zero, List.set_cons_succ]
   refine wpAnyH_take (i := 7) (oi := _) (v := ?_) rfl (by kernel_rfl) (by kernel_rfl) (by kernel_rfl) (fun _ _ _ h => h) (Or.inl ⟨by kernel_rfl, ?_⟩) (by assumption) ?_
   rotate_left
   ·intro w hSw
    try dsimp only at hSw
    go_simp
    try (with_reducible rfl)
   try simp only [Act.put, List.getElem_toArray, List.getElem_cons_zero, List.getElem_cons_succ, List.setIfInBounds_toArray, List.set_cons_zero, List.set_cons_succ]
   refine wpAnyH_done (by kernel_rfl) ?_ _
   clear hHeld hs4 x0 x1 x2 x3 x4 hck
   go_wp2
   go_light
   go_roundw
   case rel => exact ⟨k + 1, R, by go_num, by omega, by rw [HTk.out]; exact HL4, HR4, HW4⟩
   case measure => simp [intOf]; omega
  ·have hdl : ¬ (k : Int) < (bs.length : Int) := by omega
   obtain rfl : k = bs.length := by omega
   rw [List.take_length] at HL
   have HZ := Lib.hid (HB.out.trans (HW.out.mono (Nat.le_of_lt HX.out.lt)))
   go_wp2
   go_light
   go_ret
   exact ⟨L, _, HL.out, rfl, by rw [hg]; exact HZ.out, HR.out⟩
def LabelOf (N : NfaV) (l : List Int) (x : Int) : Prop := x ≠ 0 ∧ ∃ m : Nat, (m : Int) ∈ l ∧ N.accept[m]? = some x
def IsLabels (N : NfaV) (l R : List Int) : Prop := Rises R ∧ ∀ x, x ∈ R ↔ LabelOf N l x
theorem labels_one {N : NfaV} {l m R T : List Int} (h : IsLabels N l R) (hm : ∀ x, x ∈ l ↔ x ∈ m) (h2 : IsLabels N m T) : R = T :=
 rises_ext h.1 h2.1 fun x => (h.2 x).trans ((show LabelOf N l x ↔ LabelOf N m x from ⟨fun ⟨a, k, b, c⟩ => ⟨a, k, (hm _).1 b, c⟩, fun ⟨a, k, b, c⟩ => ⟨a, k, (hm _).2 b, c⟩⟩).trans (h2.2 x).symm)
theorem rightN_accept {N : NfaV} (h : rightN N = true) : (N.accept.length : Int) = N.states ∧ ∀ x ∈ N.accept, 0 ≤ x ∧ x ≤ 64 := by
 by_cases h2 : N.states ≤ 65536 ∧ isB N.states N.start = true ∧ (N.accept.length : Int) = N.states
 ·refine ⟨h2.2.2, fun x hx => ?_⟩
  unfold rightN at h
  simp only [Bool.and_eq_true] at h
  have := List.all_eq_true.1 h.2.2.2.2.2 x hx
  unfold accB at this
  rw [Bool.and_eq_true, decide_eq_true_eq, decide_eq_true_eq] at this
  exact this
 ·rw [rightN_head h2] at h
  cases h
theorem rlabels17_go (N : NfaV) (A1 : Option Addr) (k1 : Nat) (A2 : Option Addr) (k2 : Nat) (A3 : Option Addr) (k3 : Nat) (w : World) (hN : NfaAt w N A1 A2 A3) (hR : rightN N = true) (hk3 : N.accept.length ≤ k3) (A : Option Addr) (cap : Nat) (l : List Int) (hA : IntsAt w A l) (hlen : l.length ≤ 100000000) (hcap : l.length ≤ cap) :
  Calls Tryz.prog 34 #[.agg (nfA N A1 k1 A2 k2 A3 k3), .slice A l.length cap] w (ListOut (IsLabels N l) w) := by
 have hb1 : Below w.heap.size w (w.alloc (.cells #[.int .i64 N.states, .int .i64 N.start, .slice A1 N.links.length k1, .slice A2 N.edges.length k2, .slice A3 N.accept.length k3] 43)) := (Below.refl _ _).alloc (Nat.le_refl _) _
 have HX := Lib.hid (Blk.new w 43 #[.int .i64 N.states, .int .i64 N.start, .slice A1 N.links.length k1, .slice A2 N.edges.length k2, .slice A3 N.accept.length k3])
 have HB := Lib.hid hb1
 have HN := Lib.hid (hN.below hb1)
 have HA := Lib.hid (hA.below hb1)
 have HRt := Lib.hid hR
 have hal := hN.al
 clear hb1 hN hA hR
 unfold nfA at *
 go_enter Tryz.func34, Tryz.ntmps34
 go_upto_region 1 with fail
 generalize hg : w.heap.size = gx at *
 generalize w.alloc (.cells #[.int .i64 N.states, .int .i64 N.start, .slice A1 N.links.length k1, .slice A2 N.edges.length k2, .slice A3 N.accept.length k3] 43) = w1 at *
 have HR0 := Lib.hid (rowi_made w1)
 have HB0 := Lib.hid ((Below.refl w1.heap.size w1).alloc (Nat.le_refl _) (.cells #[] 3))
 go_wp2
 go_loopw [5, 6] (fun u i wr => ∃ (k : Nat) (R : List Int), i = .int .i64 (k : Int) ∧ k ≤ l.length ∧ Hid (Rises R) ∧ Hid (∀ x, x ∈ R ↔ x ≠ 0 ∧ ∃ (j m : Nat), j < k ∧ l[j]? = some (m : Int) ∧ N.accept[m]? = some x) ∧ Hid (RowI wr R u) ∧ Hid (Below w1.heap.size w1 wr)) (fun _ i _ => l.length - (intOf i).toNat)
 case atStart => exact ⟨0, [], rfl, Nat.zero_le _, Lib.hid List.Pairwise.nil, Lib.hid (fun x => ⟨fun h => (by simp at h), fun ⟨_, j, m, h, _⟩ => (by omega)⟩), HR0, HB0⟩
 case round =>
  clear HR0 HB0
  obtain ⟨k, R, rfl, hk, HO, HK, HR, HW⟩ := hrel
  have HX2 := Lib.hid (HX.out.below HW.out HX.out.lt)
  obtain ⟨x0, x1, x2, x3, x4⟩ := HX2.out.c5
  have hlx := HX2.out.lt
  have hacc := (rightN_accept HRt.out).1
  have hR64 : R.length ≤ 65 := rises_len HO.out (fun x hx => by
   obtain ⟨_, j, m, _, _, h2⟩ := (HK.out x).1 hx
   have := (rightN_accept HRt.out).2 x (List.mem_of_getElem? h2)
   omega)
  by_cases hlt : k < l.length
  ·obtain ⟨s, hs⟩ : ∃ s, l[k]? = some s := ⟨_, List.getElem?_eq_getElem hlt⟩
   obtain ⟨b, o, rfl, hc⟩ := (HA.out.below HW.out) k s hs
   have hbw : b < wr.heap.size := World.block_lt_of_cell? wr _ hc
   have hdl : (k : Int) < (l.length : Int) := by omega
   have hdc : (k : Int) < (cap : Int) := by omega
   have HS := Lib.hid hs
   clear hs
   by_cases h0 : 0 ≤ s
   ·obtain ⟨m, rfl⟩ := Int.eq_ofNat_of_zero_le h0
    by_cases h1 : (m : Int) < N.states
    ·obtain ⟨a, ha⟩ : ∃ a, N.accept[m]? = some a := ⟨_, List.getElem?_eq_getElem (by omega)⟩
     obtain ⟨b3, o3, rfl, hc3⟩ := (HN.out.below HW.out).a m a ha
     have hbw3 : b3 < wr.heap.size := World.block_lt_of_cell? wr _ hc3
     have hml : (m : Int) < (N.accept.length : Int) := by omega
     have hmk : (m : Int) < (k3 : Int) := by omega
     have HA3 := Lib.hid ha
     by_cases hz : a = 0
     ·have hzz : (a != 0) = false := by simpa using hz
      have HZ := Lib.hid hz
      clear ha hz
      have HK2 := Lib.hid (show ∀ x, x ∈ R ↔ x ≠ 0 ∧ ∃ (j m : Nat), j < k + 1 ∧ l[j]? = some (m : Int) ∧ N.accept[m]? = some x from fun x => (HK.out x).trans ⟨fun ⟨h1, j, m, h2, h3⟩ => ⟨h1, j, m, by omega, h3⟩, fun ⟨h1, j, m, h2, h3, h4⟩ => ⟨h1, by
       rcases Nat.lt_or_ge j k with h | h
       ·exact ⟨j, m, h, h3, h4⟩
       ·obtain rfl : j = k := by omega
        rw [HS.out] at h3
        cases h3
        rw [HA3.out] at h4; cases h4; exact absurd HZ.out h1⟩⟩)
      go_wp2_with fail
      go_quiet (fail)
      go_wp2
      go_roundw
      case rel => exact ⟨k + 1, R, by go_num, by omega, HO, HK2, HR, Lib.hid (bel_drewN HW.out _)⟩
      case measure => simp [intOf]; omega
     ·have hzz : (a != 0) = true := by simpa using hz
      have HZ := Lib.hid hz
      clear ha hz
      go_wp2_with fail
      go_quiet (fail)
      have HWd := Lib.hid (bel_drewN HW.out nq)
      have hcd : (wr.drewN nq).cell? ⟨b, o + k, none⟩ = some (.int .i64 (m : Int)) := hc
      have hcd3 : (wr.drewN nq).cell? ⟨b3, o3 + m, none⟩ = some (.int .i64 a) := hc3
      have xd4 : (wr.drewN nq).cell? ⟨gx, 4, none⟩ = some (.slice (some ⟨b3, o3, none⟩) N.accept.length k3) := x4
      have hbd : b < (wr.drewN nq).heap.size := hbw
      have hbd3 : b3 < (wr.drewN nq).heap.size := hbw3
      have hld : gx < (wr.drewN nq).heap.size := hlx
      have hP := rput_row (w := (wr.drewN nq).drew) (R := R) HR.out (by omega) a
      have HP := Lib.hid hP
      have HK2 := Lib.hid (show ∀ x, x ∈ putI R a ↔ x ≠ 0 ∧ ∃ (j m : Nat), j < k + 1 ∧ l[j]? = some (m : Int) ∧ N.accept[m]? = some x from fun x => (putI_mem R a x).trans ⟨fun h => by
       rcases h with h | rfl
       ·obtain ⟨h1, j, m, h2, h3⟩ := (HK.out x).1 h
        exact ⟨h1, j, m, by omega, h3⟩
       ·exact ⟨HZ.out, k, m, by omega, HS.out, HA3.out⟩, fun ⟨h1, j, m', h2, h3, h4⟩ => by
       rcases Nat.lt_or_ge j k with h | h
       ·exact .inl ((HK.out x).2 ⟨h1, j, m', h, h3, h4⟩)
       ·obtain rfl : j = k := by omega
        rw [HS.out] at h3
        have h5 : (m : Int) = (m' : Int) := Option.some.inj h3
        obtain rfl : m = m' := by omega
        rw [HA3.out] at h4
        exact .inr (Option.some.inj h4).symm⟩)
      have HO2 := Lib.hid (putI_rises (n := a) HO.out)
      clear hP hc hc3 x0 x1 x2 x3 x4 hbw hbw3 hlx HX2 HK HO HR HW
      generalize wr.drewN nq = wd at *
      go_upto_region 6 with fail
      refine wp_region_held_drew (S := fun w' => ∀ b' o', b' < wd.heap.size → w'.cell? ⟨b', o', none⟩ = wd.cell? ⟨b', o', none⟩) (by kernel_rfl) (KeepP.start (fun b' => b' < wd.heap.size) wd) (fun hHeld => ?_)
      refine wpAnyH_take (i := 0) (oi := _) (v := ?_) rfl (by kernel_rfl) (by kernel_rfl) (by kernel_rfl) (fun _ _ _ h => h) (Or.inl ⟨by kernel_rfl, ?_⟩) (by assumption) ?_
      rotate_left
      ·intro w hSw
       try dsimp only at hSw
       go_simp
       try (with_reducible rfl)
      try simp only [Act.put, List.getElem_toArray, List.getElem_cons_zero, List.getElem_cons_succ, List.setIfInBounds_toArray, List.set_cons_zero, List.set_cons_succ]
      refine wpAnyH_take (i := 1) (oi := _) (v := ?_) rfl (by kernel_rfl) (by kernel_rfl) (by kernel_rfl) (fun _ _ _ h => h) (Or.inl ⟨by kernel_rfl, ?_⟩) (by assumption) ?_
      rotate_left
      ·intro w hSw
       try dsimp only at hSw
       go_simp
       try (with_reducible rfl)
      try simp only [Act.put, List.getElem_toArray, List.getElem_cons_zero, List.getElem_cons_succ, List.setIfInBounds_toArray, List.set_cons_zero, List.set_cons_succ]
      refine wpAnyH_take (i := 2) (oi := _) (v := ?_) rfl (by kernel_rfl) (by kernel_rfl) (by kernel_rfl) (fun _ _ _ h => h) (Or.inl ⟨by kernel_rfl, ?_⟩) (by assumption) ?_
      rotate_left
      ·intro w hSw
       try dsimp only at hSw
       go_simp
       try (with_reducible rfl)
      try simp only [Act.put, List.getElem_toArray, List.getElem_cons_zero, List.getElem_cons_succ, List.setIfInBounds_toArray, List.set_cons_zero, List.set_cons_succ]
      refine wpAnyH_take (i := 3) (oi := _) (v := ?_) rfl (by kernel_rfl) (by kernel_rfl) (by kernel_rfl) (fun _ _ _ h => h) (Or.inl ⟨by kernel_rfl, ?_⟩) (by assumption) ?_
      rotate_left
      ·intro w hSw
       try dsimp only at hSw
       go_simp
       try (with_reducible rfl)
      try simp only [Act.put, List.getElem_toArray, List.getElem_cons_zero, List.getElem_cons_succ, List.setIfInBounds_toArray, List.set_cons_zero, List.set_cons_succ]
      refine wpAnyH_take (i := 4) (oi := _) (v := ?_) rfl (by kernel_rfl) (by kernel_rfl) (by kernel_rfl) (fun _ _ _ h => h) (Or.inl ⟨by kernel_rfl, ?_⟩) (by assumption) ?_
      rotate_left
      ·intro w hSw
       try dsimp only at hSw
       go_simp
       try (with_reducible rfl)
      try simp only [Act.put, List.getElem_toArray, List.getElem_cons_zero, List.getElem_cons_succ, List.setIfInBounds_toArray, List.set_cons_zero, List.set_cons_succ]
      refine wpAnyH_take (i := 5) (oi := _) (v := ?_) rfl (by kernel_rfl) (by kernel_rfl) (by kernel_rfl) (fun _ _ _ h => h) (Or.inl ⟨by kernel_rfl, ?_⟩) (by assumption) ?_
      rotate_left
      ·intro w hSw
       try dsimp only at hSw
       go_simp
       try (with_reducible rfl)
      try simp only [Act.put, List.getElem_toArray, List.getElem_cons_zero, List.getElem_cons_succ, List.setIfInBounds_toArray, List.set_cons_zero, List.set_cons_succ]
      refine wpAnyH_take (i := 6) (oi := _) (v := ?_) rfl (by kernel_rfl) (by kernel_rfl) (by kernel_rfl) (fun _ _ _ h => h) (Or.inl ⟨by kernel_rfl, ?_⟩) (by assumption) ?_
      rotate_left
      ·intro w hSw
       try dsimp only at hSw
       go_simp
       try (with_reducible rfl)
      try simp only [Act.put, List.getElem_toArray, List.getElem_cons_zero, List.getElem_cons_succ, List.setIfInBounds_toArray, List.set_cons_zero, List.set_cons_succ]
      refine wpAnyH_take (i := 7) (oi := _) (v := ?_) rfl (by kernel_rfl) (by kernel_rfl) (by kernel_rfl) (fun _ _ _ h => h) (Or.inl ⟨by kernel_rfl, ?_⟩) (by assumption) ?_
      rotate_left
      ·intro w hSw
       try dsimp only at hSw
       go_simp
       try (with_reducible rfl)
      try simp only [Act.put, List.getElem_toArray, List.getElem_cons_zero, List.getElem_cons_succ, List.setIfInBounds_toArray, List.set_cons_zero, List.set_cons_succ]
      refine wpAnyH_take (i := 8) (oi := _) (v := ?_) rfl (by kernel_rfl) (by kernel_rfl) (by kernel_rfl) (fun _ _ _ h => h) (Or.inl ⟨by kernel_rfl, ?_⟩) (by assumption) ?_
      rotate_left
      ·intro w hSw
       try dsimp only at hSw
       go_simp
       try (with_reducible rfl)
      try simp only [Act.put, List.getElem_toArray, List.getElem_cons_zero, List.getElem_cons_succ, List.setIfInBounds_toArray, List.set_cons_zero, List.set_cons_succ]
      refine wpAnyH_ready (rs := [9]) (by kernel_rfl) (by simp) ?_
      refine AllReadyH.cons (o := _) rfl (fun K hK => ?_) AllReadyH.nil
      go_simp
      go_at_call 79
      refine HP.out.mono ?_
      rintro e w4 ⟨v4, rfl, hb4, hr4⟩
      have hs4 : ∀ b' o', b' < wd.heap.size → w4.cell? ⟨b', o', none⟩ = wd.cell? ⟨b', o', none⟩ := fun b' o' e => hb4.cell (p := ⟨b', o', none⟩) e
      have HR4 := Lib.hid hr4
      have HW4 := Lib.hid (HWd.out.trans (((Below.refl wd.heap.size wd).drew.trans hb4).mono HWd.out.size))
      clear hr4 hb4 HWd
      refine hK.out _ _ hs4 (fun _ => ?_)
      clear hK K HP
      try simp only [Act.put, List.getElem_toArray, List.getElem_cons_zero, List.getElem_cons_succ, List.setIfInBounds_toArray, List.set_cons_zero, List.set_cons_succ]
      refine wpAnyH_take (i := 10) (oi := _) (v := ?_) rfl (by kernel_rfl) (by kernel_rfl) (by kernel_rfl) (fun _ _ _ h => h) (Or.inl ⟨by kernel_rfl, ?_⟩) (by assumption) ?_
      rotate_left
      ·intro w hSw
       try dsimp only at hSw
       go_simp
       try (with_reducible rfl)
      try simp only [Act.put, List.getElem_toArray, List.getElem_cons_zero, List.getElem_cons_succ, List.setIfInBounds_toArray, List.set_cons_zero, List.set_cons_succ]
      refine wpAnyH_done (by kernel_rfl) ?_ _
      clear hHeld hs4 xd4 hcd hcd3
      go_wp2
      go_light
      go_roundw
      case rel => exact ⟨k + 1, _, by go_num, by omega, HO2, HK2, HR4, HW4⟩
      case measure => simp [intOf]; omega
    ·have d1 : decide ((m : Int) < N.states) = false := decide_eq_false h1
     have HK2 := Lib.hid (show ∀ x, x ∈ R ↔ x ≠ 0 ∧ ∃ (j m : Nat), j < k + 1 ∧ l[j]? = some (m : Int) ∧ N.accept[m]? = some x from fun x => (HK.out x).trans ⟨fun ⟨h1, j, m, h2, h3⟩ => ⟨h1, j, m, by omega, h3⟩, fun ⟨h1, j, m, h2, h3, h4⟩ => ⟨h1, by
      rcases Nat.lt_or_ge j k with h | h
      ·exact ⟨j, m, h, h3, h4⟩
      ·obtain rfl : j = k := by omega
       rw [HS.out] at h3
       cases h3
       have := (List.getElem?_eq_some_iff.1 h4).1; omega⟩⟩)
     go_wp2_with fail
     go_quiet (fail)
     go_wp2
     go_roundw
     case rel => exact ⟨k + 1, R, by go_num, by omega, HO, HK2, HR, Lib.hid (bel_drewN HW.out _)⟩
     case measure => simp [intOf]; omega
   ·have d0 : decide (0 ≤ s) = false := decide_eq_false h0
    have HK2 := Lib.hid (show ∀ x, x ∈ R ↔ x ≠ 0 ∧ ∃ (j m : Nat), j < k + 1 ∧ l[j]? = some (m : Int) ∧ N.accept[m]? = some x from fun x => (HK.out x).trans ⟨fun ⟨h1, j, m, h2, h3⟩ => ⟨h1, j, m, by omega, h3⟩, fun ⟨h1, j, m, h2, h3, h4⟩ => ⟨h1, by
     rcases Nat.lt_or_ge j k with h | h
     ·exact ⟨j, m, h, h3, h4⟩
     ·obtain rfl : j = k := by omega
      rw [HS.out] at h3
      cases h3
      omega⟩⟩)
    go_wp2_with fail
    go_quiet (fail)
    go_wp2
    go_roundw
    case rel => exact ⟨k + 1, R, by go_num, by omega, HO, HK2, HR, Lib.hid (bel_drewN HW.out _)⟩
    case measure => simp [intOf]; omega
  ·have hdl : ¬ (k : Int) < (l.length : Int) := by omega
   obtain rfl : k = l.length := by omega
   have HF := Lib.hid (show IsLabels N l R from ⟨HO.out, fun x => (HK.out x).trans ⟨fun ⟨h1, j, m, h2, h3, h4⟩ => ⟨h1, m, List.mem_of_getElem? h3, h4⟩, fun ⟨h1, m, h2, h3⟩ => by
    obtain ⟨j, hj, e⟩ := List.mem_iff_getElem.1 h2
    exact ⟨h1, j, m, hj, by rw [List.getElem?_eq_getElem hj, e], h3⟩⟩⟩)
   have HZ := Lib.hid (HB.out.trans (HW.out.mono (Nat.le_of_lt HX.out.lt)))
   go_wp2
   go_light
   go_ret
   exact ⟨R, _, HF.out, rfl, by rw [hg]; exact HZ.out, HR.out⟩
def TellOf (N : NfaV) (u : List Nat) (x : Int) : Prop := ∃ L R, RunOf N u L ∧ IsLabels N L R ∧ x = R.headD 0
theorem tell_one {N : NfaV} {u : List Nat} {x y : Int} (h : TellOf N u x) (h2 : TellOf N u y) : x = y := by
 obtain ⟨L, R, a, b, rfl⟩ := h
 obtain ⟨M, T, c, d, rfl⟩ := h2
 obtain rfl := run_one a c
 rw [labels_one b (fun _ => Iff.rfl) d]
theorem labels_len {N : NfaV} {l R : List Int} (hR : rightN N = true) (h : IsLabels N l R) : R.length ≤ 65 := rises_len h.1 (fun x hx => by
 obtain ⟨_, m, _, h2⟩ := (h.2 x).1 hx
 have := (rightN_accept hR).2 x (List.mem_of_getElem? h2)
 omega)
theorem rtell17_go (N : NfaV) (A1 : Option Addr) (k1 : Nat) (A2 : Option Addr) (k2 : Nat) (A3 : Option Addr) (k3 : Nat) (w : World) (hN : NfaAt w N A1 A2 A3) (hk1 : N.links.length ≤ k1) (hR : rightN N = true) (hk2 : N.edges.length ≤ k2) (hk3 : N.accept.length ≤ k3) (A : Option Addr) (cap : Nat) (bs : List Nat) (hA : BytesAt w w.heap.size A bs) (hcap : bs.length ≤ cap) :
  Calls Tryz.prog 40 #[.agg (nfA N A1 k1 A2 k2 A3 k3), .slice A bs.length cap] w fun e w' => ∃ x, TellOf N bs x ∧ e = .returned (.int .i64 x) ∧ Below w.heap.size w w' := by
 have hb1 : Below w.heap.size w (w.alloc (.cells #[.int .i64 N.states, .int .i64 N.start, .slice A1 N.links.length k1, .slice A2 N.edges.length k2, .slice A3 N.accept.length k3] 43)) := (Below.refl _ _).alloc (Nat.le_refl _) _
 have HX := Lib.hid (Blk.new w 43 #[.int .i64 N.states, .int .i64 N.start, .slice A1 N.links.length k1, .slice A2 N.edges.length k2, .slice A3 N.accept.length k3])
 have HB := Lib.hid hb1
 have HN := Lib.hid (hN.below hb1)
 have HRt := Lib.hid hR
 have HRu := Lib.hid (rrun17_go N A1 k1 A2 k2 A3 k3 (w.alloc (.cells #[.int .i64 N.states, .int .i64 N.start, .slice A1 N.links.length k1, .slice A2 N.edges.length k2, .slice A3 N.accept.length k3] 43)).drew ((hN.below hb1).below (Below.refl _ _).drew) hk1 hR hk2 A cap bs ((hA.below hb1).more hb1.size) hcap)
 clear hb1 hN hA hR
 unfold nfA at *
 go_enter Tryz.func40, Tryz.ntmps40
 go_upto_region 1 with fail
 generalize hg : w.heap.size = gx at *
 generalize w.alloc (.cells #[.int .i64 N.states, .int .i64 N.start, .slice A1 N.links.length k1, .slice A2 N.edges.length k2, .slice A3 N.accept.length k3] 43) = w1 at *
 obtain ⟨x0, x1, x2, x3, x4⟩ := HX.out.c5
 have hlx := HX.out.lt
 refine wp_region_held_drew (S := fun w' => ∀ b' o', b' < w1.heap.size → w'.cell? ⟨b', o', none⟩ = w1.cell? ⟨b', o', none⟩) (by kernel_rfl) (KeepP.start (fun b' => b' < w1.heap.size) w1) (fun hHeld => ?_)
 refine wpAnyH_take (i := 0) (oi := _) (v := ?_) rfl (by kernel_rfl) (by kernel_rfl) (by kernel_rfl) (fun _ _ _ h => h) (Or.inl ⟨by kernel_rfl, ?_⟩) (by assumption) ?_
 rotate_left
 ·intro w hSw
  try dsimp only at hSw
  go_simp
  try (with_reducible rfl)
 try simp only [Act.put, List.getElem_toArray, List.getElem_cons_zero, List.getElem_cons_succ, List.setIfInBounds_toArray, List.set_cons_zero, List.set_cons_succ]
 refine wpAnyH_take (i := 1) (oi := _) (v := ?_) rfl (by kernel_rfl) (by kernel_rfl) (by kernel_rfl) (fun _ _ _ h => h) (Or.inl ⟨by kernel_rfl, ?_⟩) (by assumption) ?_
 rotate_left
 ·intro w hSw
  try dsimp only at hSw
  go_simp
  try (with_reducible rfl)
 try simp only [Act.put, List.getElem_toArray, List.getElem_cons_zero, List.getElem_cons_succ, List.setIfInBounds_toArray, List.set_cons_zero, List.set_cons_succ]
 refine wpAnyH_take (i := 2) (oi := _) (v := ?_) rfl (by kernel_rfl) (by kernel_rfl) (by kernel_rfl) (fun _ _ _ h => h) (Or.inl ⟨by kernel_rfl, ?_⟩) (by assumption) ?_
 rotate_left
 ·intro w hSw
  try dsimp only at hSw
  go_simp
  try (with_reducible rfl)
 try simp only [Act.put, List.getElem_toArray, List.getElem_cons_zero, List.getElem_cons_succ, List.setIfInBounds_toArray, List.set_cons_zero, List.set_cons_succ]
 refine wpAnyH_ready (rs := [3]) (by kernel_rfl) (by simp) ?_
 refine AllReadyH.cons (o := _) rfl (fun K hK => ?_) AllReadyH.nil
 go_simp
 go_at_call 38
 refine HRu.out.mono ?_
 rintro e w4 ⟨L, v4, hrun, rfl, hb4, hr4⟩
 have hs4 : ∀ b' o', b' < w1.heap.size → w4.cell? ⟨b', o', none⟩ = w1.cell? ⟨b', o', none⟩ := fun b' o' e => hb4.cell (p := ⟨b', o', none⟩) e
 have hb4' : Below w1.heap.size w1 w4 := (Below.refl w1.heap.size w1).drew.trans hb4
 obtain ⟨g, og, cg, rfl, hcg, hig, hgl⟩ := hr4
 have hL64 := runof_len HRt.out hrun
 have hla := rlabels17_go N A1 k1 A2 k2 A3 k3 w4 (HN.out.below hb4') HRt.out hk3 (some ⟨g, og, none⟩) cg L hig (by omega) hcg
 unfold nfA at hla
 have HLa := Lib.hid hla
 have HRun := Lib.hid hrun
 have HB4 := Lib.hid hb4'
 clear hla hrun hb4' hig
 refine hK.out _ _ hs4 (fun _ => ?_)
 clear hK K HRu
 try simp only [Act.put, List.getElem_toArray, List.getElem_cons_zero, List.getElem_cons_succ, List.setIfInBounds_toArray, List.set_cons_zero, List.set_cons_succ]
 refine wpAnyH_ready (rs := [4]) (by kernel_rfl) (by simp) ?_
 refine AllReadyH.cons (o := _) rfl (fun K hK => ?_) AllReadyH.nil
 go_simp
 go_at_call 34
 refine HLa.out.mono ?_
 rintro e w5 ⟨R, v5, hlab, rfl, hb5, hr5⟩
 have hs5 : ∀ b' o', b' < w1.heap.size → w5.cell? ⟨b', o', none⟩ = w1.cell? ⟨b', o', none⟩ := fun b' o' e => (hb5.cell (p := ⟨b', o', none⟩) (by have := HB4.out.size; show b' < _; omega)).trans (hs4 b' o' e)
 have HB5 := Lib.hid (HB4.out.trans (hb5.mono HB4.out.size))
 have hR65 := labels_len HRt.out hlab
 have HT := Lib.hid (show TellOf N bs (R.headD 0) from ⟨L, R, HRun.out, hlab, rfl⟩)
 obtain ⟨g5, o5, c5, rfl, hc5, hi5, hg5⟩ := hr5
 have HI5 := Lib.hid hi5
 clear hlab hi5
 refine hK.out _ _ hs5 (fun _ => ?_)
 clear hK K HLa
 try simp only [Act.put, List.getElem_toArray, List.getElem_cons_zero, List.getElem_cons_succ, List.setIfInBounds_toArray, List.set_cons_zero, List.set_cons_succ]
 refine wpAnyH_take (i := 5) (oi := _) (v := ?_) rfl (by kernel_rfl) (by kernel_rfl) (by kernel_rfl) (fun _ _ _ h => h) (Or.inl ⟨by kernel_rfl, ?_⟩) (by assumption) ?_
 rotate_left
 ·intro w hSw
  try dsimp only at hSw
  go_simp
  try (with_reducible rfl)
 try simp only [Act.put, List.getElem_toArray, List.getElem_cons_zero, List.getElem_cons_succ, List.setIfInBounds_toArray, List.set_cons_zero, List.set_cons_succ]
 refine wpAnyH_done (by kernel_rfl) ?_ _
 clear hHeld hs4 hs5 x0 x1 x2 x3 x4 hb4 hb5
 have HZ := Lib.hid (HB.out.trans (HB5.out.mono (Nat.le_of_lt HX.out.lt)))
 cases R with
 | nil =>
  go_wp2
  go_light
  go_ret
  exact ⟨0, HT.out, rfl, by rw [hg]; exact HZ.out⟩
 | cons x R =>
  obtain ⟨b, o, e, hc0⟩ := HI5.out 0 x rfl
  cases e
  have hne : (((x :: R).length : Int) == 0) = false := by rw [beq_eq_false_iff_ne]; simp only [List.length_cons]; omega
  rw [Nat.add_zero] at hc0
  have hpos : (0 : Int) < ((x :: R).length : Int) := by simp only [List.length_cons]; omega
  generalize (x :: R).length = n5 at *
  have hnk : (0 : Int) < (c5 : Int) := by omega
  go_wp2
  go_light
  go_ret
  exact ⟨x, HT.out, rfl, by rw [hg]; exact HZ.out⟩
def wordsU (p : Nat → Bool) (n : Nat) : Array Value := ((List.range n).map fun i => Value.int .u64 ((word p i : Nat) : Int)).toArray
theorem wordsU_get (p : Nat → Bool) {n i : Nat} (h : i < n) : (wordsU p n)[i]? = some (.int .u64 ((word p i : Nat) : Int)) := by
 unfold wordsU
 rw [List.getElem?_toArray, List.getElem?_map, List.getElem?_range h]
 rfl
structure BitsAt (w : World) (g h : Nat) (S : Nat) (p : Nat → Bool) : Prop where
 box : Blk w g 159 #[.int .i64 (S : Int), .slice (some ⟨h, 0, none⟩) ((S + 63) / 64) ((S + 63) / 64)]
 row : Blk w h 23 (wordsU p ((S + 63) / 64))
 ne : g ≠ h
theorem BitsAt.below {B : Nat} {w w' : World} {g h S : Nat} {p : Nat → Bool} (hA : BitsAt w g h S p) (hb : Below B w w') (hg : g < B) (hh : h < B) : BitsAt w' g h S p := ⟨hA.box.below hb hg, hA.row.below hb hh, hA.ne⟩
theorem low63 (n : Int) : bits .and .i64 n 63 = n % 64 := by
 have h63 : (BitVec.ofInt 64 63).toNat = 2 ^ 6 - 1 := by decide
 have key : (BitVec.ofInt 64 n &&& BitVec.ofInt 64 63).toNat = (n % ((2 ^ 64 : Nat) : Int)).toNat % 2 ^ 6 := by
  rw [BitVec.toNat_and, BitVec.toNat_ofInt, h63, Nat.and_two_pow_sub_one_eq_mod]
 show IntKind.i64.wrap ((BitVec.ofInt 64 n &&& BitVec.ofInt 64 63).toNat : Nat) = n % 64
 rw [key, IntKind.wrap_i64]
 omega
def fitB (S : Nat) (c : Int) : Bool := decide (0 ≤ c) && decide (c < (S : Int))
theorem fits_go (S : Nat) (c : Int) (w : World) : Calls Tryz.prog 122 #[.int .i64 (S : Int), .int .i64 c] w fun e w' => e = .returned (.bool (fitB S c)) ∧ w = w' := by
 by_cases h0 : 0 ≤ c
 ·have HV := Lib.hid (show fitB S c = decide (c < (S : Int)) by unfold fitB; rw [decide_eq_true h0]; rfl)
  go_enter Tryz.func122, Tryz.ntmps122
  go_wp2
  go_light
  go_ret
  exact ⟨ret_b HV.out.symm, rfl⟩
 ·have HV := Lib.hid (show fitB S c = false by unfold fitB; rw [decide_eq_false h0]; rfl)
  have d0 : decide (0 ≤ c) = false := decide_eq_false h0
  go_enter Tryz.func122, Tryz.ntmps122
  go_wp2
  go_light
  go_ret
  exact ⟨ret_b HV.out.symm, rfl⟩
def hasB (S : Nat) (p : Nat → Bool) (c : Int) : Bool := fitB S c && p c.toNat
theorem bhas_go (g h S : Nat) (p : Nat → Bool) (c : Int) (w : World) (hA : BitsAt w g h S p) (hS : S ≤ 1048576) : Calls Tryz.prog 123 #[.pointer (some ⟨g, 0, none⟩), .int .i64 c] w fun e w' => e = .returned (.bool (hasB S p c)) ∧ w = w' := by
 have HF := Lib.hid (fits_go S c w)
 have x0 := hA.box.cell 0
 have x1 := hA.box.cell 1
 have hlx := hA.box.lt
 simp only [List.getElem?_toArray, List.getElem?_cons_zero, List.getElem?_cons_succ] at x0 x1
 cases hf : fitB S c with
 | false =>
  have HV := Lib.hid (show hasB S p c = false by unfold hasB; rw [hf]; rfl)
  rw [hf] at HF
  go_enter Tryz.func123, Tryz.ntmps123
  go_wp2_with fail
  refine HF.out.mono ?_
  rintro e w1 ⟨rfl, rfl⟩
  dsimp only
  go_wp2
  go_light
  go_ret
  exact ⟨ret_b HV.out.symm, rfl⟩
 | true =>
  have HV := Lib.hid (show hasB S p c = p c.toNat by unfold hasB; rw [hf]; rfl)
  rw [hf] at HF
  unfold fitB at hf
  rw [Bool.and_eq_true, decide_eq_true_eq, decide_eq_true_eq] at hf
  obtain ⟨h0, h1⟩ := hf
  obtain ⟨i, hi⟩ : ∃ i : Nat, c / 64 = (i : Int) := ⟨(c / 64).toNat, by omega⟩
  have hin : i < (S + 63) / 64 := by omega
  have y0 := hA.row.cell i
  rw [wordsU_get p hin] at y0
  have hB := has_bit p c i h0 hi
  have hil : (i : Int) < (((S + 63) / 64 : Nat) : Int) := by omega
  have hly := hA.row.lt
  have h63 := low63 c
  have hm0 : 0 ≤ c % 64 := by omega
  have hm1 : c % 64 < 64 := by omega
  generalize (S + 63) / 64 = nw at *
  go_enter Tryz.func123, Tryz.ntmps123
  go_wp2_with fail
  refine HF.out.mono ?_
  rintro e w1 ⟨rfl, rfl⟩
  dsimp only
  go_wp2
  go_light
  go_ret
  exact ⟨ret_b HV.out.symm, rfl⟩
structure Moved1 (h : Nat) (w w' : World) : Prop where
 size : w'.heap.size = w.heap.size
 blk : ∀ {b : Nat} {t : TypeId} {cs : Array Value}, b ≠ h → Blk w b t cs → Blk w' b t cs
 below : ∀ {B : Nat} {a : World}, Below B a w → B ≤ h → Below B a w'
theorem Moved1.refl (h : Nat) (w : World) : Moved1 h w w := ⟨rfl, fun _ hb => hb, fun hb _ => hb⟩
theorem wordsU_set (p : Nat → Bool) {n i : Nat} (c : Int) (h0 : 0 ≤ c) (hi : c / 64 = (i : Int)) (hin : i < n) : (wordsU p n).setIfInBounds i (.int .u64 ((word (withB p c.toNat) i : Nat) : Int)) = wordsU (withB p c.toNat) n := by
 have e : ∀ j : Nat, ((wordsU p n).setIfInBounds i (.int .u64 ((word (withB p c.toNat) i : Nat) : Int)))[j]? = (wordsU (withB p c.toNat) n)[j]? := fun j => by
  rcases Nat.lt_or_ge j n with hj | hj
  ·rw [wordsU_get _ hj, Array.getElem?_setIfInBounds]
   by_cases hij : i = j
   ·subst hij
    rw [if_pos rfl, if_pos (by simpa [wordsU] using hj)]
   ·rw [if_neg hij, wordsU_get _ hj, with_other p c i j h0 hi (fun e => hij e.symm)]
  ·rw [Array.getElem?_eq_none (by simpa [wordsU] using hj), Array.getElem?_eq_none (by simpa [wordsU] using hj)]
 exact Array.ext_getElem? e
def newB (S : Nat) (p : Nat → Bool) (c : Int) : Bool := fitB S c && !p c.toNat
def putB (S : Nat) (p : Nat → Bool) (c : Int) : Nat → Bool := if newB S p c = true then withB p c.toNat else p
theorem bput_go (g h S : Nat) (p : Nat → Bool) (c : Int) (w : World) (hA : BitsAt w g h S p) (hS : S ≤ 1048576) : Calls Tryz.prog 77 #[.pointer (some ⟨g, 0, none⟩), .int .i64 c] w fun e w' => e = .returned (.bool (newB S p c)) ∧ BitsAt w' g h S (putB S p c) ∧ Moved1 h w w' := by
 have HF := Lib.hid (fits_go S c w)
 have HH := Lib.hid (bhas_go g h S p c w hA hS)
 have x0 := hA.box.cell 0
 have x1 := hA.box.cell 1
 have hlx := hA.box.lt
 simp only [List.getElem?_toArray, List.getElem?_cons_zero, List.getElem?_cons_succ] at x0 x1
 cases hf : fitB S c with
 | false =>
  have hn : newB S p c = false := by unfold newB; rw [hf]; rfl
  have HV := Lib.hid hn
  have HP := Lib.hid (show putB S p c = p by unfold putB; rw [hn]; rfl)
  rw [hf] at HF
  have HA := Lib.hid hA
  clear hn hA
  go_enter Tryz.func77, Tryz.ntmps77
  go_wp2_with fail
  refine HF.out.mono ?_
  rintro e w1 ⟨rfl, rfl⟩
  dsimp only
  go_wp2
  go_light
  go_ret
  exact ⟨ret_b HV.out.symm, by rw [HP.out]; exact HA.out, Moved1.refl _ _⟩
 | true =>
  rw [hf] at HF
  cases hp : p c.toNat with
  | true =>
   have hn : newB S p c = false := by unfold newB; rw [hf, hp]; rfl
   have HV := Lib.hid hn
   have HP := Lib.hid (show putB S p c = p by unfold putB; rw [hn]; rfl)
   have hb : hasB S p c = true := by unfold hasB; rw [hf, hp]; rfl
   rw [hb] at HH
   have HA := Lib.hid hA
   clear hn hA hb
   go_enter Tryz.func77, Tryz.ntmps77
   go_wp2_with fail
   refine HF.out.mono ?_
   rintro e w1 ⟨rfl, rfl⟩
   dsimp only
   go_wp2_with fail
   refine HH.out.mono ?_
   rintro e w1 ⟨rfl, rfl⟩
   dsimp only
   go_wp2
   go_light
   go_ret
   exact ⟨ret_b HV.out.symm, by rw [HP.out]; exact HA.out, Moved1.refl _ _⟩
  | false =>
   have hn : newB S p c = true := by unfold newB; rw [hf, hp]; rfl
   have HV := Lib.hid hn
   have HP := Lib.hid (show putB S p c = withB p c.toNat by unfold putB; rw [hn]; rfl)
   have hb : hasB S p c = false := by unfold hasB; rw [hf, hp]; rfl
   rw [hb] at HH
   unfold fitB at hf
   rw [Bool.and_eq_true, decide_eq_true_eq, decide_eq_true_eq] at hf
   obtain ⟨h0, h1⟩ := hf
   obtain ⟨i, hi⟩ : ∃ i : Nat, c / 64 = (i : Int) := ⟨(c / 64).toNat, by omega⟩
   have hin : i < (S + 63) / 64 := by omega
   have y0 := hA.row.cell i
   have f0 := hA.row.frozen i
   rw [wordsU_get p hin] at y0
   have hB := with_or p c i h0 hi
   have hil : (i : Int) < (((S + 63) / 64 : Nat) : Int) := by omega
   have hly := hA.row.lt
   have h63 := low63 c
   have hm0 : 0 ≤ c % 64 := by omega
   have hm1 : c % 64 < 64 := by omega
   have HA := Lib.hid hA
   have HS := Lib.hid (wordsU_set p (n := (S + 63) / 64) c h0 hi hin)
   have HI := Lib.hid hin
   clear hn hA hb hin
   generalize hnw : (S + 63) / 64 = nw at *
   have HNW := Lib.hid hnw
   clear hnw
   go_enter Tryz.func77, Tryz.ntmps77
   go_wp2_with fail
   refine HF.out.mono ?_
   rintro e w1 ⟨rfl, rfl⟩
   dsimp only
   go_wp2_with fail
   refine HH.out.mono ?_
   rintro e w1 ⟨rfl, rfl⟩
   dsimp only
   go_wp2_with fail
   go_region
   clear x0 x1 y0 f0 hB
   go_wp2
   go_light
   go_ret
   refine ⟨ret_b HV.out.symm, ⟨(HA.out.box.far (p := ⟨h, i, none⟩) HA.out.ne _).drew, ?_, HA.out.ne⟩, ⟨by simp, fun hb hk => (hk.far (p := ⟨h, i, none⟩) hb _).drew, fun hb hle => (hb.setCell (p := ⟨h, i, none⟩) hle _).drew⟩⟩
   have hr := HA.out.row
   rw [HNW.out] at hr ⊢
   rw [HP.out, ← HS.out]
   exact (hr.set_ i _).drew
theorem info_wordC : (Tryz.prog.info? 23).map (fun i => (i.zero, i.size, i.bytes)) = some (some (.int .u64 0), 1, 8) := by kernel_rfl
theorem words_none (n : Nat) : madeCells (Value.int .u64 0).cells (n * 1) = wordsU (fun _ => false) n := by
 refine Array.ext_getElem? fun i => ?_
 rcases Nat.lt_or_ge i n with h | h
 ·rw [wordsU_get _ h, word_none i]
  unfold madeCells
  rw [Array.getElem?_map, Array.getElem?_range, if_pos (by omega)]
  simp [Value.cells, Nat.mod_one]
 ·rw [Array.getElem?_eq_none (by rw [size_madeCells]; omega), Array.getElem?_eq_none (by simpa [wordsU] using h)]
theorem bnew_go (S : Nat) (w : World) (hS : S ≤ 1048576) : Calls Tryz.prog 75 #[.int .i64 (S : Int)] w fun e w' => ∃ g h, e = .returned (.tuple #[.pointer (some ⟨g, 0, none⟩), .int .i64 0]) ∧ BitsAt w' g h S (fun _ => false) ∧ Below w.heap.size w w' ∧ w.heap.size ≤ g ∧ w.heap.size ≤ h := by
 have d0 : decide ((S : Int) < 0) = false := decide_eq_false (by omega)
 have d1 : decide ((1048576 : Int) < (S : Int)) = false := decide_eq_false (by omega)
 obtain ⟨i0, hi0, hz0, hz1, hz2⟩ := info_parts info_wordC
 obtain ⟨n, hn⟩ : ∃ n : Nat, n = (S + 63) / 64 := ⟨_, rfl⟩
 have hq : ((S : Int) + 63) / 64 = (n : Int) := by omega
 have hmk : ∀ W : World, (Instr.makeSlice 157 (.int .i64 (n : Int)) (.int .i64 (n : Int))).run Tryz.prog W = .ok (.slice (some ⟨W.heap.size, 0, none⟩) n n) (W.alloc (.cells (wordsU (fun _ => false) n) 23)) := fun W => by
  have h := run_make (P := Tryz.prog) (w := W) 157 23 i0 _ Tryz.underlying157 hi0 hz0 .i64 .i64 (n : Int) (n : Int) (by omega) (by omega) (by rw [hz2]; omega) (by omega)
  rw [hz1] at h
  rw [← words_none]
  simpa using h
 have HN := Lib.hid hn
 clear hn hz0 hz1 hz2 hi0
 go_enter Tryz.func75, Tryz.ntmps75
 go_wp2
 go_light
 go_ret2
 refine ⟨w.heap.size + 1, w.heap.size, rfl, ⟨?_, ?_, by omega⟩, ((Below.refl _ _).alloc (Nat.le_refl _) _).alloc (by simp) _, by omega, Nat.le_refl _⟩
 ·rw [← HN.out]
  exact Blk.new_at (by simp)
 ·rw [← HN.out]
  exact (Blk.new _ _ _).alloc _
end Go.Proofs.YtfekpkelmliejaaGreatDoor
namespace Go.Proofs.YtfekpkelmliejaaGreatDoor
open Go.RowKit Go.Maps
set_option linter.unusedSimpArgs false
set_option linter.unusedVariables false
set_option maxRecDepth 100000
set_option maxHeartbeats 8000000
def linksOf (N : NfaV) (s : Int) : List Int := (N.links.filter fun p => decide (p.1 = s)).map (·.2)
def edgesOf (N : NfaV) (s : Int) : List (Int × Nat × Int) := N.edges.filter fun p => decide (p.1 = s)
structure WorkAt (w : World) (g lm em : Nat) (N : NfaV) (A3 : Option Addr) (k3 : Nat) : Prop where
 box : Blk w g 96 #[.int .i64 N.states, .int .i64 N.start, .map (some lm), .map (some em), .slice A3 N.accept.length k3]
 acc : IntsAt w A3 N.accept
 room : N.accept.length ≤ k3
 ll : N.links.length ≤ 1048576
 el : N.edges.length ≤ 1048576
 tab : TabAt 1 Lib.deBruijn64tab w
 tabl : 1 < w.heap.size
 links : ∀ s : Int, ∃ A c, (∀ w', Below w.heap.size w w' → (Instr.lookup 93 (.map (some lm)) (.int .i64 s) false).run Tryz.prog w' = .ok (.slice A (linksOf N s).length c) w') ∧ IntsAt w A (linksOf N s) ∧ (linksOf N s).length ≤ c
 edges : ∀ s : Int, ∃ A c, (∀ w', Below w.heap.size w w' → (Instr.lookup 94 (.map (some em)) (.int .i64 s) false).run Tryz.prog w' = .ok (.slice A (edgesOf N s).length c) w') ∧ EdgesAt w A (edgesOf N s) ∧ (edgesOf N s).length ≤ c
theorem WorkAt.below {w w' : World} {g lm em : Nat} {N : NfaV} {A3 : Option Addr} {k3 : Nat} (h : WorkAt w g lm em N A3 k3) (hb : Below w.heap.size w w') : WorkAt w' g lm em N A3 k3 :=
 ⟨h.box.below hb h.box.lt, h.acc.below hb, h.room, h.ll, h.el, TabAt.below hb h.tabl h.tab, Nat.lt_of_lt_of_le h.tabl hb.size, fun s => by
  obtain ⟨A, c, h1, h2, h3⟩ := h.links s
  exact ⟨A, c, fun w2 hw => h1 w2 (hb.trans (hw.mono hb.size)), h2.below hb, h3⟩, fun s => by
  obtain ⟨A, c, h1, h2, h3⟩ := h.edges s
  exact ⟨A, c, fun w2 hw => h1 w2 (hb.trans (hw.mono hb.size)), h2.below hb, h3⟩⟩
theorem linksOf_mem {N : NfaV} {a b : Int} : b ∈ linksOf N a ↔ (a, b) ∈ N.links := by
 unfold linksOf
 rw [List.mem_map]
 constructor
 ·rintro ⟨⟨x, y⟩, h, rfl⟩
  obtain ⟨h1, h2⟩ := List.mem_filter.1 h
  have h3 : x = a := of_decide_eq_true h2
  subst h3
  exact h1
 ·exact fun h => ⟨(a, b), List.mem_filter.2 ⟨h, decide_eq_true rfl⟩, rfl⟩
theorem edgesOf_mem {N : NfaV} {a : Int} {p : Int × Nat × Int} : p ∈ edgesOf N a ↔ p ∈ N.edges ∧ p.1 = a := by
 unfold edgesOf
 rw [List.mem_filter, decide_eq_true_eq]
theorem mis_go (g lm em : Nat) (N : NfaV) (A3 : Option Addr) (k3 : Nat) (s : Int) (w : World) (hA : WorkAt w g lm em N A3 k3) :
  Calls Tryz.prog 83 #[.pointer (some ⟨g, 0, none⟩), .int .i64 s] w fun e w' => e = .returned (.bool (isB N.states s)) ∧ w = w' := by
 have x0 := hA.box.cell 0
 have hlx := hA.box.lt
 simp only [List.getElem?_toArray, List.getElem?_cons_zero] at x0
 by_cases h0 : 0 ≤ s
 ·have HV := Lib.hid (show isB N.states s = decide (s < N.states) by unfold isB; rw [decide_eq_true h0]; rfl)
  go_enter Tryz.func83, Tryz.ntmps83
  go_wp2
  go_light
  go_ret
  exact ⟨ret_b HV.out.symm, rfl⟩
 ·have HV := Lib.hid (show isB N.states s = false by unfold isB; rw [decide_eq_false h0]; rfl)
  have d0 : decide (0 ≤ s) = false := decide_eq_false h0
  go_enter Tryz.func83, Tryz.ntmps83
  go_wp2
  go_light
  go_ret
  exact ⟨ret_b HV.out.symm, rfl⟩
theorem few_go (N : NfaV) (A1 : Option Addr) (k1 : Nat) (A2 : Option Addr) (k2 : Nat) (A3 : Option Addr) (k3 : Nat) (w : World) (hN : NfaAt w N A1 A2 A3) :
  Calls Tryz.prog 26 #[.agg (nfA N A1 k1 A2 k2 A3 k3)] w fun e w' => e = .returned (.bool (decide (N.links.length + N.edges.length ≤ 300))) ∧ Below w.heap.size w w' := by
 have h1 := hN.ll
 have h2 := hN.el
 have hs : IntKind.i64.wrap ((N.links.length : Int) + (N.edges.length : Int)) = (N.links.length : Int) + (N.edges.length : Int) := IntWalk.i64_in _ (by omega)
 have hb1 : Below w.heap.size w (w.alloc (.cells #[.int .i64 N.states, .int .i64 N.start, .slice A1 N.links.length k1, .slice A2 N.edges.length k2, .slice A3 N.accept.length k3] 43)) := (Below.refl _ _).alloc (Nat.le_refl _) _
 have HB := Lib.hid hb1
 clear hb1
 unfold nfA
 go_enter Tryz.func26, Tryz.ntmps26
 by_cases hf : N.links.length + N.edges.length ≤ 300
 ·have HV := Lib.hid (show decide (N.links.length + N.edges.length ≤ 300) = true from decide_eq_true hf)
  have hd : (N.links.length : Int) + (N.edges.length : Int) ≤ 300 := by omega
  go_wp2
  go_light
  go_ret
  exact ⟨ret_b HV.out.symm, HB.out⟩
 ·have HV := Lib.hid (show decide (N.links.length + N.edges.length ≤ 300) = false from decide_eq_false hf)
  have hd : decide ((N.links.length : Int) + (N.edges.length : Int) ≤ 300) = false := decide_eq_false (by omega)
  go_wp2
  go_light
  go_ret
  exact ⟨ret_b HV.out.symm, HB.out⟩
end Go.Proofs.YtfekpkelmliejaaGreatDoor
namespace Go.Proofs.YtfekpkelmliejaaGreatDoor
open Go.RowKit Go.MapKept Go.ChangeMaps
set_option linter.unusedSimpArgs false
set_option linter.unusedVariables false
set_option maxRecDepth 100000
set_option maxHeartbeats 8000000
section
variable {α : Type} {enc : α → List Value} {w w1 w2 : World} {base sz b : Nat} {e k t E : TypeId} {f : Int → List α}
def GrpAt (enc : α → List Value) (w : World) (base : Nat) (e : TypeId) (sz b : Nat) (f : Int → List α) : Prop :=
 ∃ es clock, w.heap[b]? = some (.map es clock) ∧ Stamped es clock ∧ b < base ∧
  (∀ x ∈ es.toList, ∃ s : Int, x.key = .int .i64 s ∧ w.ownsRow base e sz x.val (f s).length ((f s).flatMap enc)) ∧
  (∀ s : Int, f s ≠ [] → ∃ x ∈ es.toList, x.key = .int .i64 s) ∧
  (∀ x ∈ es.toList, ∀ y ∈ es.toList, x.key ≠ y.key → x.val.ownBlock = none ∨ x.val.ownBlock ≠ y.val.ownBlock)
theorem GrpAt.lt (h : GrpAt enc w base e sz b f) : b < w.heap.size := by
 obtain ⟨es, clock, hb, _⟩ := h
 exact (Array.getElem?_eq_some_iff.1 hb).1
theorem GrpAt.stay (h : GrpAt enc w base e sz b f) (hs : ∀ j o, w.heap[j]? = some o → j = b ∨ (∃ cur, o = .cells cur e (0, 0)) → w1.heap[j]? = some o) : GrpAt enc w1 base e sz b f := by
 obtain ⟨es, clock, hb, h1, h2, h3, h4, h5⟩ := h
 refine ⟨es, clock, hs b _ hb (.inl rfl), h1, h2, fun x hx => ?_, h4, h5⟩
 obtain ⟨s, e1, hr⟩ := h3 x hx
 refine ⟨s, e1, ownsRow_block hr fun j hj => ?_⟩
 rcases hr.2 with ⟨e2, _⟩ | ⟨g, cap, cur, e2, _, hg, _⟩
 ·rw [e2] at hj
  simp [Value.ownBlock] at hj
 ·rw [e2] at hj
  obtain rfl : g = j := by simpa [Value.ownBlock] using hj
  rw [hg]
  exact hs g _ hg (.inr ⟨cur, rfl⟩)
theorem GrpAt.below (h : GrpAt enc w base e sz b f) (hb : Below w.heap.size w w1) : GrpAt enc w1 base e sz b f :=
 h.stay fun j o hj _ => (hb.block j (Array.getElem?_eq_some_iff.1 hj).1).trans hj
variable {P : Program}
theorem GrpAt.look (h : GrpAt enc w base e sz b f) (ht : P.underlying t = some (.map k E)) (hk : P.underlying k = some (.int .i64)) (hz : ∀ W, (zeroValue E).run P W = .ok (.slice none 0 0) W) (s : Int) :
  ∃ v, (∀ W, W.heap[b]? = w.heap[b]? → (Instr.lookup t (.map (some b)) (.int .i64 s) false).run P W = .ok v W) ∧ w.ownsRow base e sz v (f s).length ((f s).flatMap enc) ∧
   ∀ es clock, w.heap[b]? = some (.map es clock) → ∀ x ∈ es.toList, x.key ≠ .int .i64 s → x.val.ownBlock = none ∨ x.val.ownBlock ≠ v.ownBlock := by
 obtain ⟨es, clock, hb, h1, h2, h3, h4, h5⟩ := h
 have hks : ∀ x ∈ es.toList, IsKey (.int .i64) x.key := fun x hx => by
  obtain ⟨s', e1, _⟩ := h3 x hx
  rw [e1]
  rfl
 have hkey : IsKey (.int .i64) (.int .i64 s) := rfl
 rcases findNow_spec hkey es.toList 0 hks with ⟨q1, q2⟩ | ⟨j, e0, q1, q2, q3⟩
 ·have hf : f s = [] := by
   cases hfs : f s with
   | nil => rfl
   | cons a l =>
    obtain ⟨x, hx, e1⟩ := h4 s (by rw [hfs]; simp)
    exact absurd e1 (q2 x hx)
  refine ⟨.slice none 0 0, ?_, ?_, fun es' clock' hb' x hx hne => by
   cases hx' : x.val.ownBlock with
   | none => exact .inl rfl
   | some g => exact .inr (by simp [Value.ownBlock])⟩
  ·intro W hW
   have hb := hW.trans hb
   simp [Instr.lookup, run_underlying ht, MapKept.run_getObj_map hb, run_checkKey hk hkey, run_findKey hk q1, hz, Result.andThen]
  ·rw [hf]
   exact World.ownsRow_nil _ _ _ _
 ·have hm := List.mem_of_getElem? q2
  obtain ⟨s', e1, hr⟩ := h3 e0 hm
  rw [q3] at e1
  obtain rfl : s = s' := by injection e1
  refine ⟨e0.val, ?_, hr, fun es' clock' hb' x hx hne => ?_⟩
  ·intro W hW
   have hb := hW.trans hb
   simp [Instr.lookup, run_underlying ht, MapKept.run_getObj_map hb, run_checkKey hk hkey, run_findKey hk q1, Result.andThen]
  ·rw [hb] at hb'
   cases hb'
   exact h5 x hx e0 hm (by rw [q3]; exact hne)
theorem GrpAt.store (h : GrpAt enc w base e sz b f) (ht : P.underlying t = some (.map k E)) (hk : P.underlying k = some (.int .i64)) (s : Int) {v v' : Value} {n : Nat} {xs : List Value} {a : α} (hv : w.ownsRow base e sz v n xs)
  (hap : ∀ es clock, w.heap[b]? = some (.map es clock) → ∀ x ∈ es.toList, x.key ≠ .int .i64 s → x.val.ownBlock = none ∨ x.val.ownBlock ≠ v.ownBlock)
  (hg : ∀ j, j < w.heap.size → some j ≠ v.ownBlock → w1.heap[j]? = w.heap[j]?) (hown : w1.ownsRow base e sz v' (f s ++ [a]).length ((f s ++ [a]).flatMap enc)) (hloc : v'.ownBlock = v.ownBlock ∨ ∃ g, v'.ownBlock = some g ∧ w.heap.size ≤ g) :
  ∃ w2, (Instr.mapUpdate t (.map (some b)) (.int .i64 s) v').run P w1 = .ok () w2 ∧ GrpAt enc w2 base e sz b (fun x => if x = s then f s ++ [a] else f x) ∧ w1.grownBy w2 (some b) := by
 obtain ⟨es, clock, hb, h1, h2, h3, h4, h5⟩ := h
 have hblt : b < w.heap.size := (Array.getElem?_eq_some_iff.1 hb).1
 have hvb : some b ≠ v.ownBlock := fun e1 => by
  have := (hv.lt b e1.symm).1
  omega
 have hb1 : w1.heap[b]? = some (.map es clock) := (hg b hblt hvb).trans hb
 have hks : ∀ x ∈ es.toList, IsKey (.int .i64) x.key := fun x hx => by
  obtain ⟨s', e1, _⟩ := h3 x hx
  rw [e1]
  rfl
 have hkey : IsKey (.int .i64) (.int .i64 s) := rfl
 have key : ∃ es' clock', (Instr.mapUpdate t (.map (some b)) (.int .i64 s) v').run P w1 = .ok () (setBlock w1 b (.map es' clock')) ∧ Stamped es' clock' ∧
   (∀ x ∈ es'.toList, (x ∈ es.toList ∧ x.key ≠ .int .i64 s) ∨ (x.key = .int .i64 s ∧ x.val = v')) ∧ (∃ x ∈ es'.toList, x.key = .int .i64 s) ∧ (∀ x ∈ es.toList, ∃ y ∈ es'.toList, y.key = x.key) := by
  rcases findNow_spec hkey es.toList 0 hks with ⟨q1, q2⟩ | ⟨j, e0, q1, q2, q3⟩
  ·refine ⟨es.push ⟨.int .i64 s, v', clock⟩, clock + 1, ?_, stamped_push h1 q2, fun x hx => ?_, ⟨⟨.int .i64 s, v', clock⟩, by simp, rfl⟩, fun x hx => ⟨x, by simp only [Array.toList_push, List.mem_append]; exact .inl hx, rfl⟩⟩
   ·simp [Instr.mapUpdate, run_underlying ht, MapKept.run_getObj_map hb1, run_checkKey hk hkey, run_findKey hk q1, MapKept.run_setObj_map _ hb1, Result.andThen, setBlock]
   ·simp only [Array.toList_push, List.mem_append, List.mem_singleton] at hx
    rcases hx with hx | rfl
    ·exact .inl ⟨hx, q2 x hx⟩
    ·exact .inr ⟨rfl, rfl⟩
  ·have hj : es[j]? = some e0 := by simpa using q2
   have hkeyf : ∀ e', es[j]? = some e' → ({ e' with key := .int .i64 s, val := v' } : MapEntry).key = e'.key := fun e' he' => by rw [hj] at he'; cases he'; exact q3.symm
   have hlist : (es.modify j (fun e' => { e' with key := .int .i64 s, val := v' })).toList = es.toList.set j { e0 with key := .int .i64 s, val := v' } := by rw [Array.toList_modify, modify_eq_set _ _ _ _ q2]
   refine ⟨es.modify j (fun e' => { e' with key := .int .i64 s, val := v' }), clock, ?_, stamped_modify h1 _ _ (fun _ _ => rfl) (fun e' _ he' => hkeyf e' he'), fun x hx => ?_, ?_, fun x hx => ?_⟩
   ·simp [Instr.mapUpdate, run_underlying ht, MapKept.run_getObj_map hb1, run_checkKey hk hkey, run_findKey hk q1, hj, q3, run_keyThatStays hkey, MapKept.run_setObj_map _ hb1, Result.andThen, setBlock]
   ·rw [hlist] at hx
    obtain ⟨i, hi, ex⟩ := List.getElem_of_mem hx
    rw [List.getElem_set] at ex
    split at ex
    ·rw [← ex]
     exact .inr ⟨rfl, rfl⟩
    ·rename_i hne
     have hi' : i < es.toList.length := by simpa using hi
     refine .inl ⟨ex ▸ List.getElem_mem hi', fun e1 => hne ?_⟩
     have hnd := h1.2.2
     have hjl := (List.getElem?_eq_some_iff.1 q2).1
     have e2 : (es.toList.map (·.key))[j]? = (es.toList.map (·.key))[i]? := by
      rw [List.getElem?_map, List.getElem?_map, q2, List.getElem?_eq_getElem hi', ex]
      simp [q3, e1]
     exact (List.getElem?_inj (by simpa using hjl) hnd).1 e2
   ·rw [hlist]
    refine ⟨{ e0 with key := .int .i64 s, val := v' }, List.mem_iff_getElem?.2 ⟨j, ?_⟩, rfl⟩
    rw [List.getElem?_set_self (List.getElem?_eq_some_iff.1 q2).1]
   ·have hm : x.key ∈ (es.modify j (fun e' => { e' with key := .int .i64 s, val := v' })).toList.map (·.key) := by
     rw [modify_keys j _ hkeyf]
     exact List.mem_map.2 ⟨x, hx, rfl⟩
    obtain ⟨y, hy, e1⟩ := List.mem_map.1 hm
    exact ⟨y, hy, e1⟩
 obtain ⟨es', clock', hrun, hst, hwho, hhas, hold⟩ := key
 have hg2 : w1.grownBy (setBlock w1 b (.map es' clock')) (some b) := ⟨rfl, rfl, rfl, by simp [setBlock], fun i _ hi => heap_setBlock_other hb1 _ (fun e1 => hi (by rw [e1]))⟩
 have own_ne : ∀ {u : Value} {m : Nat} {ys : List Value}, w1.ownsRow base e sz u m ys → u.ownBlock = none ∨ u.ownBlock ≠ some b := fun {u m ys} ho => by
  cases hu : u.ownBlock with
  | none => exact .inl rfl
  | some g =>
   refine .inr fun e1 => ?_
   have := (ho.lt g hu).1
   cases e1
   omega
 have hstay : ∀ x ∈ es.toList, x.key ≠ .int .i64 s → ∃ s' : Int, x.key = .int .i64 s' ∧ (setBlock w1 b (.map es' clock')).ownsRow base e sz x.val (f s').length ((f s').flatMap enc) := fun x hx hne => by
  obtain ⟨s', e1, hr⟩ := h3 x hx
  have h6 : w1.ownsRow base e sz x.val (f s').length ((f s').flatMap enc) := ownsRow_block hr fun j hj => hg j (hr.lt j hj).2 (fun e2 => by
   rcases hap es clock hb x hx hne with h7 | h7
   ·rw [h7] at hj; cases hj
   ·exact h7 (hj.trans e2))
  exact ⟨s', e1, h6.kept hg2 (own_ne h6)⟩
 have hfar : ∀ x ∈ es.toList, x.key ≠ .int .i64 s → x.val.ownBlock = none ∨ x.val.ownBlock ≠ v'.ownBlock := fun x hx hne => by
  rcases hloc with h7 | ⟨g, h7, h8⟩
  ·rw [h7]
   exact hap es clock hb x hx hne
  ·cases hx' : x.val.ownBlock with
   | none => exact .inl rfl
   | some gx =>
    obtain ⟨s', e1, hr⟩ := h3 x hx
    have := (hr.lt gx hx').2
    refine .inr fun e2 => ?_
    rw [h7] at e2
    cases e2
    omega
 refine ⟨_, hrun, ⟨es', clock', heap_setBlock_same hb1 _, hst, h2, fun x hx => ?_, fun s' hs' => ?_, fun x hx y hy hne => ?_⟩, hg2⟩
 ·rcases hwho x hx with ⟨h6, h7⟩ | ⟨h6, h7⟩
  ·obtain ⟨s', e1, h8⟩ := hstay x h6 h7
   refine ⟨s', e1, ?_⟩
   have : s' ≠ s := fun e2 => h7 (by rw [e1, e2])
   simp only [if_neg this]
   exact h8
  ·refine ⟨s, h6, ?_⟩
   simp only [if_pos]
   rw [h7]
   exact hown.kept hg2 (own_ne hown)
 ·by_cases hs : s' = s
  ·subst hs
   exact hhas
  ·simp only [if_neg hs] at hs'
   obtain ⟨x, hx, e1⟩ := h4 s' hs'
   obtain ⟨y, hy, e2⟩ := hold x hx
   exact ⟨y, hy, e2.trans e1⟩
 ·rcases hwho x hx with ⟨h6, h7⟩ | ⟨h6, h7⟩
  ·rcases hwho y hy with ⟨h8, h9⟩ | ⟨h8, h9⟩
   ·exact h5 x h6 y h8 hne
   ·rw [h9]
    exact hfar x h6 h7
  ·rcases hwho y hy with ⟨h8, h9⟩ | ⟨h8, h9⟩
   ·rw [h7]
    rcases hfar y h8 h9 with h10 | h10
    ·cases hv' : v'.ownBlock with
     | none => exact .inl rfl
     | some g => exact .inr (by rw [h10]; simp)
    ·exact .inr (fun e1 => h10 e1.symm)
   ·exact absurd (h6.trans h8.symm) hne
theorem GrpAt.step (h : GrpAt enc w base e sz b f) (ht : P.underlying t = some (.map k E)) (hk : P.underlying k = some (.int .i64)) (hz : ∀ W, (zeroValue E).run P W = .ok (.slice none 0 0) W) (hE : P.underlying E = some (.slice e))
  (i : TypeInfo) (z : Value) (bytes : Nat) (hi : P.info? e = some i) (hiz : i.zero = some z) (hi1 : i.size = sz) (hi2 : i.bytes = bytes) (hi3 : z.cells.size = sz) (hsz : 0 < sz)
  (s : Int) (a : α) (cs : Array Value) (hcs : cs.toList = enc a) (hlen : (enc a).length = sz) (hone : ∀ u ∈ enc a, u.oneCell' = true) (h63 : (f s).length + 1 ≤ maxLen) (hby : ((f s).length + 1) * bytes ≤ 140737488355328) (hbase : base ≤ w.heap.size) :
  ∃ v v' w1 w2, (∀ W, W.heap[b]? = w.heap[b]? → (Instr.lookup t (.map (some b)) (.int .i64 s) false).run P W = .ok v W) ∧
   (Builtin.append_ #[E, E] E #[v, .slice (some ⟨w.heap.size, 0, none⟩) 1 1]).run P ((w.alloc (.cells cs e)).drew) = .ok v' w1 ∧
   (Instr.mapUpdate t (.map (some b)) (.int .i64 s) v').run P w1 = .ok () w2 ∧
   GrpAt enc w2 base e sz b (fun x => if x = s then f s ++ [a] else f x) ∧
   (∀ j, j < w.heap.size → j ≠ b → (j < base ∨ (∀ cur, w.heap[j]? ≠ some (.cells cur e (0, 0))) ∨ some j ≠ v.ownBlock) → w1.heap[j]? = w.heap[j]? ∧ w2.heap[j]? = w.heap[j]?) ∧
   (∀ B a0, Below B a0 w → B ≤ base → B ≤ b → Below B a0 w2) ∧ w.heap.size ≤ w2.heap.size := by
 obtain ⟨v, hlk, hrow, hap⟩ := h.look ht hk hz s
 have hb0 : Below w.heap.size w (w.alloc (.cells cs e)).drew := ((Below.refl _ _).alloc (Nat.le_refl _) _).drew
 have hnews : ∀ j u, (enc a)[j]? = some u → (w.alloc (.cells cs e)).drew.cell? ((⟨w.heap.size, 0, none⟩ : Addr).add j) = some u := fun j u hj => by
  have h1 := ((Blk.new w e cs).drew).cell j
  rw [addr_plusC, Nat.zero_add, h1, ← Array.getElem?_toList, hcs, hj]
 obtain ⟨v', w1, hr1, ho1, hg1, _, hl1⟩ := run_append_own_at (P := P) ((w.alloc (.cells cs e)).drew) base E E e i z sz bytes hE hi hiz hi1 hi2 hi3 hsz v (f s).length _ ((hrow.alloc _).drew) ⟨w.heap.size, 0, none⟩ 1 1 (enc a) (by rw [hlen, Nat.one_mul]) hnews hone h63 hby (by simp; omega)
 have hkeep : ∀ j, j < w.heap.size → some j ≠ v.ownBlock → w1.heap[j]? = w.heap[j]? := fun j hj hne => (hg1.block j (by simp; omega) hne).trans (hb0.block j hj)
 have hown : w1.ownsRow base e sz v' (f s ++ [a]).length ((f s ++ [a]).flatMap enc) := by
  rw [List.length_append, List.flatMap_append]
  simpa using ho1
 obtain ⟨w2, hr2, hG2, hg2⟩ := h.store ht hk s hrow hap hkeep hown (hl1.imp id fun e1 => ⟨_, e1, by simp⟩)
 refine ⟨v, v', w1, w2, hlk, hr1, hr2, hG2, fun j hj hjb ho => ?_, fun B a0 hB h1 h2 => ?_, ?_⟩
 ·have hne : some j ≠ v.ownBlock := fun e1 => by
   rcases hrow.2 with ⟨rfl, _⟩ | ⟨g, cap, cur, rfl, hbg, hh, _⟩
   ·simp [Value.ownBlock] at e1
   ·have e2 : j = g := by simpa [Value.ownBlock] using e1
    subst e2
    rcases ho with ho | ho | ho
    ·omega
    ·exact ho cur hh
    ·exact ho rfl
  have h1 := hkeep j hj hne
  exact ⟨h1, (hg2.block j (by have := hg1.size; simp at this; omega) (fun e1 => hjb (by simpa using e1))).trans h1⟩
 ·have hB0 : Below B a0 ((w.alloc (.cells cs e)).drew) := (hB.alloc (by omega) _).drew
  have hB1 := below_grown hB0 hg1 ((hrow.alloc (.cells cs e)).drew) h1 (by simp; omega)
  exact hB1.grown hg2 (by have := hg1.size; simp at this; omega) (fun k e1 => by cases e1; exact h2)
 ·have h1 := hg1.size
  have h2 := hg2.size
  simp at h1
  omega
end
end Go.Proofs.YtfekpkelmliejaaGreatDoor
namespace Go.Proofs.YtfekpkelmliejaaGreatDoor
open Go.RowKit Go.Maps
set_option linter.unusedSimpArgs false
set_option linter.unusedVariables false
set_option maxRecDepth 100000
set_option maxHeartbeats 8000000
def lkF (L : List (Int × Int)) (s : Int) : List Int := (L.filter fun p => decide (p.1 = s)).map (·.2)
def edF (L : List (Int × Nat × Int)) (s : Int) : List (Int × Nat × Int) := L.filter fun p => decide (p.1 = s)
theorem lkF_snoc (L : List (Int × Int)) (p : Int × Int) : (fun x => if x = p.1 then lkF L p.1 ++ [p.2] else lkF L x) = lkF (L ++ [p]) := by
 funext x
 unfold lkF
 rw [List.filter_append, List.map_append]
 by_cases h : x = p.1
 ·subst h
  simp
 ·have h2 : ¬ p.1 = x := fun e => h e.symm
  simp [h, h2]
theorem edF_snoc (L : List (Int × Nat × Int)) (p : Int × Nat × Int) : (fun x => if x = p.1 then edF L p.1 ++ [p] else edF L x) = edF (L ++ [p]) := by
 funext x
 unfold edF
 rw [List.filter_append]
 by_cases h : x = p.1
 ·subst h
  simp
 ·have h2 : ¬ p.1 = x := fun e => h e.symm
  simp [h, h2]
theorem lkF_len (L : List (Int × Int)) (s : Int) : (lkF L s).length ≤ L.length := by unfold lkF; rw [List.length_map]; exact List.length_filter_le _ _
theorem edF_len (L : List (Int × Nat × Int)) (s : Int) : (edF L s).length ≤ L.length := by unfold edF; exact List.length_filter_le _ _
def inI (a : Int) : List Value := [.int .i64 a]
theorem inI_flat (l : List Int) : l.flatMap inI = intsC l := by
 induction l with
 | nil => rfl
 | cons a l ih => rw [List.flatMap_cons, ih]; rfl
def edI (p : Int × Nat × Int) : List Value := [.int .i64 p.1, .int .u64 (word p.2.1.testBit 0), .int .u64 (word p.2.1.testBit 1), .int .u64 (word p.2.1.testBit 2), .int .u64 (word p.2.1.testBit 3), .int .i64 p.2.2]
theorem edI_get : ∀ (l : List (Int × Nat × Int)) (k : Nat) (p : Int × Nat × Int), l[k]? = some p → ∀ j, j < 6 → (l.flatMap edI)[k * 6 + j]? = (edI p)[j]?
 | [], k, p, h, _, _ => by simp at h
 | x :: l, 0, p, h, j, hj => by
  simp at h
  subst h
  rw [List.flatMap_cons, Nat.zero_mul, Nat.zero_add, List.getElem?_append_left (by simpa [edI] using hj)]
 | x :: l, k + 1, p, h, j, hj => by
  have h1 := edI_get l k p (by simpa using h) j hj
  have hl : (edI x).length = 6 := rfl
  rw [List.flatMap_cons, List.getElem?_append_right (by omega), hl, show (k + 1) * 6 + j - 6 = k * 6 + j by omega]
  exact h1
theorem own_edI {w : World} {base n : Nat} {A : Option Addr} {k : Nat} {l : List (Int × Nat × Int)} (h : w.ownsRow base 100 6 (.slice A n k) l.length (l.flatMap edI)) : EdgesAt w A l := fun i q hq => by
 have hi := (List.getElem?_eq_some_iff.1 hq).1
 obtain ⟨g, c, e, _, _⟩ := own_form h (by omega)
 cases e
 have hc := edI_get l i q hq
 have d : ∀ j u, j < 6 → (edI q)[j]? = some u → w.cell? ⟨g, 0 + i * 6 + j, none⟩ = some u := fun j u hj hu => by
  have := h.cells (g := g) rfl _ _ ((hc j hj).trans hu)
  rw [addr_plusC, Nat.zero_add] at this
  rw [Nat.zero_add]
  exact this
 exact ⟨g, 0, rfl, d 0 _ (by decide) rfl, d 1 _ (by decide) rfl, d 2 _ (by decide) rfl, d 3 _ (by decide) rfl, d 4 _ (by decide) rfl, d 5 _ (by decide) rfl⟩
theorem own_len_cap {w : World} {base size : Nat} {e : TypeId} {v : Value} {n : Nat} {xs : List Value} (h : w.ownsRow base e size v n xs) : ∃ A c, v = .slice A n c ∧ n ≤ c := by
 rcases h.2 with ⟨rfl, h0⟩ | ⟨g, c, cur, hv, _, _, hc, _⟩
 ·exact ⟨none, 0, by rw [h0], by omega⟩
 ·exact ⟨_, c, hv, hc⟩
theorem zero_ints (w : World) : (zeroValue 41).run Tryz.prog w = .ok (.slice none 0 0) w := by kernel_rfl
theorem zero_edges (w : World) : (zeroValue 40).run Tryz.prog w = .ok (.slice none 0 0) w := by kernel_rfl
theorem step_appendC {ops : Array Oper} {o : Oper} {a : Act} {w : World} {K : Act → World → Prop} {Q : Exit → Act → World → Prop} {E : Prop} (hgd : o.guard = none) (sl x : Operand) (t u : TypeId)
  (ho : o.op = .call { callee := .builtin .append, args := #[sl, x], argTypes := #[t, u] }) (v1 v2 v' : Value) (w' : World) (hs : a.eval sl = v1) (hx : a.eval x = v2)
  (hr : (Builtin.append_ #[t, u] o.type #[v1, v2]).run Tryz.prog w = .ok v' w')
  (h : K (a.put o.dst v') w') : if Region.wanted o (yielded ops a.tmps) = true then Oper.wp Tryz.prog o a w K Q else E := by
 have hw : Region.wanted o (yielded ops a.tmps) = true := by simp [Region.wanted, hgd]
 rw [if_pos hw]
 unfold Oper.wp execOp
 simp only [ho, resolve, invoke, builtin, Sem.run_bind, Sem.run_pure, Result.andThen_ok, List.map_toArray, List.map_cons, List.map_nil, hs, hx, hr]
 exact h
theorem step_mapC {ops : Array Oper} {o : Oper} {a : Act} {w : World} {K : Act → World → Prop} {Q : Exit → Act → World → Prop} {E : Prop} (hgd : o.guard = none) (m x v : Operand) (t : TypeId)
  (ho : o.op = .mapUpdate t m x v) (vm vk vv : Value) (w' : World) (hm : a.eval m = vm) (hx : a.eval x = vk) (hv : a.eval v = vv)
  (hr : (Instr.mapUpdate t vm vk vv).run Tryz.prog w = .ok () w')
  (h : K (a.put o.dst undef) w') : if Region.wanted o (yielded ops a.tmps) = true then Oper.wp Tryz.prog o a w K Q else E := by
 have hw : Region.wanted o (yielded ops a.tmps) = true := by simp [Region.wanted, hgd]
 rw [if_pos hw]
 unfold Oper.wp
 simp [execOp, ho, hm, hx, hv, hr, Result.andThen]
 exact h
structure Lp1 (w2 wc : World) (N : NfaV) (lm n : Nat) (wr : World) : Prop where
 grp : GrpAt inI wr wc.heap.size 3 1 lm (lkF (N.links.take n))
 kept : ∀ j, j < wc.heap.size → j ≠ lm → wr.heap[j]? = wc.heap[j]?
 bel : Below w2.heap.size w2 wr
 sz : wc.heap.size ≤ wr.heap.size
structure Lp2 (w2 wc : World) (N : NfaV) (lm em n : Nat) (wr : World) : Prop where
 lgrp : GrpAt inI wr wc.heap.size 3 1 lm (lkF N.links)
 grp : GrpAt edI wr wc.heap.size 100 6 em (edF (N.edges.take n))
 kept : ∀ j, j < wc.heap.size → j ≠ lm → j ≠ em → wr.heap[j]? = wc.heap[j]?
 bel : Below w2.heap.size w2 wr
 sz : wc.heap.size ≤ wr.heap.size
def boolsU (q : Nat → Bool) (n : Nat) : Array Value := ((List.range n).map fun i => Value.bool (q i)).toArray
theorem boolsU_get (q : Nat → Bool) {n i : Nat} (h : i < n) : (boolsU q n)[i]? = some (.bool (q i)) := by
 unfold boolsU
 rw [List.getElem?_toArray, List.getElem?_map, List.getElem?_range h]
 rfl
theorem boolsU_set (q : Nat → Bool) (n i : Nat) : (boolsU q n).setIfInBounds i (.bool true) = boolsU (fun j => q j || j == i) n := by
 refine Array.ext_getElem? fun j => ?_
 rcases Nat.lt_or_ge j n with hj | hj
 ·rw [boolsU_get _ hj, Array.getElem?_setIfInBounds]
  by_cases hij : i = j
  ·subst hij
   rw [if_pos rfl, if_pos (by simpa [boolsU] using hj)]
   simp
  ·rw [if_neg hij, boolsU_get _ hj]
   have : (j == i) = false := by simpa using fun e => hij e.symm
   rw [this, Bool.or_false]
 ·rw [Array.getElem?_eq_none (by simpa [boolsU] using hj), Array.getElem?_eq_none (by simpa [boolsU] using hj)]
theorem bool_sizeC (w : World) : (sizeOf 4).run Tryz.prog w = .ok 1 w := by kernel_rfl
theorem index_bool (bq : Array Value) {k : Nat} {c : Bool} (h : bq[k]? = some (.bool c)) (hk : k < 65) (W : World) : (Instr.index 112 (.agg bq) (.int .i64 (k : Int))).run Tryz.prog W = .ok (.bool c) W := by
 have hd : (k : Int) < 65 := by omega
 have hc : bq[k]?.getD undef = .bool c := by rw [h]; rfl
 have u := Tryz.underlying112
 have ub := Tryz.underlying4
 simp [Instr.index, run_underlying u, asIntOf, hd, bool_sizeC, go_sem, part, run_underlying ub, h]
 intro h2
 omega
theorem mlabels_go (g lm em : Nat) (N : NfaV) (A3 : Option Addr) (k3 : Nat) (w : World) (hA : WorkAt w g lm em N A3 k3) (hR : rightN N = true) (A : Option Addr) (cap : Nat) (l : List Int) (hl : IntsAt w A l) (hlen : l.length ≤ 100000000) (hcap : l.length ≤ cap) :
  Calls Tryz.prog 33 #[.pointer (some ⟨g, 0, none⟩), .slice A l.length cap] w fun e w' => ∃ R A' c, IsLabels N l R ∧ e = .returned (.slice A' R.length c) ∧ Below w.heap.size w w' ∧ IntsAt w' A' R ∧ R.length ≤ c := by
 have HA := Lib.hid hA
 have HL := Lib.hid hl
 have HRt := Lib.hid hR
 clear hA hl hR
 go_enter Tryz.func33, Tryz.ntmps33
 go_upto_region 4 with fail
 have hz : Tryz.zeroCells112 = boolsU (fun _ => false) 65 := by kernel_rfl
 rw [hz]
 have HQ := Lib.hid (Blk.new w 112 (boolsU (fun _ => false) 65))
 have HB0 := Lib.hid ((Below.refl w.heap.size w).alloc (Nat.le_refl _) (.cells (boolsU (fun _ => false) 65) 112))
 clear hz
 generalize hg : w.heap.size = gs at *
 generalize w.alloc (.cells (boolsU (fun _ => false) 65) 112) = w1 at *
 go_wp2
 go_loopw [15] (fun i wr => ∃ (k : Nat) (q : Nat → Bool), i = .int .i64 (k : Int) ∧ k ≤ l.length ∧ Hid (∀ x : Nat, q x = true ↔ ∃ (j m : Nat), j < k ∧ l[j]? = some (m : Int) ∧ N.accept[m]? = some (x : Int)) ∧ Hid (Blk wr gs 112 (boolsU q 65)) ∧ Hid (Below gs w wr)) (fun i _ => l.length - (intOf i).toNat)
 case atStart => exact ⟨0, fun _ => false, rfl, Nat.zero_le _, Lib.hid (fun x => ⟨fun h => (by cases h), fun ⟨j, m, h, _⟩ => (by omega)⟩), HQ, HB0⟩
 case round =>
  clear HQ HB0
  obtain ⟨k, q, rfl, hk, HK, HQ, HW⟩ := hrel
  have hWw : Below w.heap.size w wr := by rw [hg]; exact HW.out
  have hA2 := HA.out.below hWw
  have HI := hA2
  have HA2 := Lib.hid hA2
  have hacc := rightN_accept HRt.out
  have hst := rightN_states HRt.out
  have hgl := HQ.out.lt
  have hgs : g ≠ gs := by have := HA.out.box.lt; omega
  by_cases hlt : k < l.length
  ·obtain ⟨s, hs⟩ : ∃ s, l[k]? = some s := ⟨_, List.getElem?_eq_getElem hlt⟩
   obtain ⟨b, o, rfl, hc⟩ := (HL.out.below hWw) k s hs
   have hdl : (k : Int) < (l.length : Int) := by omega
   have hdc : (k : Int) < (cap : Int) := by omega
   have HS := Lib.hid hs
   have HM := Lib.hid (mis_go g lm em N A3 k3 s wr hA2)
   clear hs hA2 HI hWw
   cases hb : isB N.states s with
   | false =>
    rw [hb] at HM
    have HN := Lib.hid (isB_no.1 hb)
    clear hb
    go_wp2_with fail
    refine HM.out.mono ?_
    rintro e w4 ⟨rfl, rfl⟩
    dsimp only
    go_wp2
    go_roundw
    case rel => exact ⟨k + 1, q, by go_num, by omega, Lib.hid (fun x => (HK.out x).trans ⟨fun ⟨j, m, h1, h2⟩ => ⟨j, m, by omega, h2⟩, fun ⟨j, m, h1, h2, h3⟩ => by
     rcases Nat.lt_or_ge j k with h | h
     ·exact ⟨j, m, h, h2, h3⟩
     ·obtain rfl : j = k := by omega
      rw [HS.out] at h2
      have h4 : s = (m : Int) := Option.some.inj h2
      have h5 := (List.getElem?_eq_some_iff.1 h3).1
      have := HN.out
      omega⟩), HQ, HW⟩
    case measure => simp [intOf]; omega
   | true =>
    rw [hb] at HM
    obtain ⟨h0, h1⟩ := isB_iff.1 hb
    obtain ⟨m, rfl⟩ := Int.eq_ofNat_of_zero_le h0
    clear hb
    obtain ⟨a, ha⟩ : ∃ a, N.accept[m]? = some a := ⟨_, List.getElem?_eq_getElem (by omega)⟩
    obtain ⟨ha0, ha1⟩ := hacc.2 a (List.mem_of_getElem? ha)
    obtain ⟨x, rfl⟩ := Int.eq_ofNat_of_zero_le ha0
    obtain ⟨b3, o3, rfl, hc3⟩ := HA2.out.acc m _ ha
    have hroom := HA2.out.room
    have hml : (m : Int) < (N.accept.length : Int) := by omega
    have hmk : (m : Int) < (k3 : Int) := by omega
    have hx65 : (x : Int) < 65 := by omega
    have x4 := HA2.out.box.cell 4
    simp only [List.getElem?_toArray, List.getElem?_cons_zero, List.getElem?_cons_succ] at x4
    have hlx := HA2.out.box.lt
    have q0 := HQ.out.cell x
    have f0 := HQ.out.frozen x
    rw [boolsU_get q (by omega)] at q0
    have HAx := Lib.hid ha
    clear ha
    go_wp2_with fail
    refine HM.out.mono ?_
    rintro e w4 ⟨rfl, rfl⟩
    dsimp only
    go_wp2
    go_light
    have HQ2 := Lib.hid (HQ.out.set_ x (.bool true))
    rw [boolsU_set] at HQ2
    refine ⟨⟨k + 1, fun j => q j || j == x, by go_num, by omega, Lib.hid (fun y => ?_), HQ2, Lib.hid (HW.out.setCell (p := ⟨gs, x, none⟩) (Nat.le_refl _) _)⟩, by simp [intOf]; omega⟩
    rw [Bool.or_eq_true, HK.out y]
    constructor
    ·rintro (⟨j, m', h1, h2⟩ | h)
     ·exact ⟨j, m', by omega, h2⟩
     ·have e : y = x := by simpa using h
      subst e
      exact ⟨k, m, by omega, HS.out, HAx.out⟩
    ·rintro ⟨j, m', h1, h2, h3⟩
     rcases Nat.lt_or_ge j k with h | h
     ·exact .inl ⟨j, m', h, h2, h3⟩
     ·obtain rfl : j = k := by omega
      rw [HS.out] at h2
      have h4 : (m : Int) = (m' : Int) := Option.some.inj h2
      obtain rfl : m = m' := by omega
      rw [HAx.out] at h3
      have h5 : (x : Int) = (y : Int) := Option.some.inj h3
      exact .inr (by simp; omega)
  ·have hdl : ¬ (k : Int) < (l.length : Int) := by omega
   obtain rfl : k = l.length := by omega
   have HF := Lib.hid (show ∀ x : Nat, (q x = true ∧ x ≠ 0) ↔ LabelOf N l (x : Int) from fun x => ⟨fun ⟨h1, h2⟩ => by
    obtain ⟨j, m, _, h3, h4⟩ := (HK.out x).1 h1
    exact ⟨by omega, m, List.mem_of_getElem? h3, h4⟩, fun ⟨h1, m, h2, h3⟩ => by
    obtain ⟨j, hj, e⟩ := List.mem_iff_getElem.1 h2
    exact ⟨(HK.out x).2 ⟨j, m, hj, by rw [List.getElem?_eq_getElem hj, e], h3⟩, by omega⟩⟩)
   have hi65 : (Tryz.prog.info? 112).map (·.size) = some (boolsU q 65).size := by kernel_rfl
   clear HK HI hWw hA2 HA2
   have hbk := fun i (hi : i < 65) => boolsU_get q hi
   generalize boolsU q 65 = bq at *
   have HQ2 := HQ
   clear HQ
   go_wp2_with (refine wpList_load_row rfl _ _ rfl gs rfl _ _ (0, 0) _ HQ2.out Tryz.underlying112 rfl hi65 ?_)
   go_loopw [8, 32] (fun u i wq => ∃ (k : Nat) (R : List Int), i = .int .i64 (k : Int) ∧ k ≤ 65 ∧ R.length ≤ k ∧ Hid (∀ x, x ∈ R ↔ ∃ n : Nat, x = (n : Int) ∧ n < k ∧ q n = true ∧ n ≠ 0) ∧ Hid (Rises R) ∧ Hid (wq.ownsRow gs 3 1 u R.length (intsC R)) ∧ Hid (Below gs w wq)) (fun _ i _ => 65 - (intOf i).toNat)
   case atStart => exact ⟨0, [], rfl, Nat.zero_le _, Nat.le_refl _, Lib.hid (fun x => ⟨fun h => (by simp at h), fun ⟨n, _, h, _⟩ => (by omega)⟩), Lib.hid List.Pairwise.nil, Lib.hid (World.ownsRow_nil _ _ _ _), HW⟩
   case round =>
    obtain ⟨k, R, rfl, hk, hRk, HK, HO, HR, HW⟩ := hrel
    by_cases hlt : k < 65
    ·have hdl : (k : Int) < 65 := by omega
     have hbs : gs ≤ wr.heap.size := by have := HW.out.size; omega
     cases hqk : q k with
     | true =>
      have hix := index_bool bq (hbk k hlt) hlt
      rw [hqk] at hix
      have HY := Lib.hid hqk
      clear hqk
      by_cases hk0 : k = 0
      ·subst hk0
       have hix0 : ∀ W : World, (Instr.index 112 (.agg bq) (.int .i64 0)).run Tryz.prog W = .ok (.bool true) W := hix
       clear hix
       go_wp2
       go_roundw
       case rel => exact ⟨1, R, by go_num, by omega, by omega, Lib.hid (fun x => (HK.out x).trans ⟨fun ⟨n, e, h1, h2⟩ => (by omega), fun ⟨n, e, h1, h2, h3⟩ => (by omega)⟩), HO, HR, HW⟩
       case measure => simp [intOf]
      ·have hkp : (0 : Int) < (k : Int) := by omega
       obtain ⟨v1, w2, hr1, ho1, hb1⟩ := push_own_int wr gs _ R HR.out (k : Int) (by omega) hbs
       have HR1 := Lib.hid hr1
       have HO1 := Lib.hid ho1
       have HW1 := Lib.hid (hb1 gs w HW.out (Nat.le_refl _))
       have HOr := Lib.hid (show Rises (R ++ [(k : Int)]) from List.pairwise_append.2 ⟨HO.out, List.pairwise_cons.2 ⟨fun x h => (by cases h), List.Pairwise.nil⟩, fun x hx y hy => by
        obtain ⟨n, rfl, h1, _⟩ := (HK.out x).1 hx
        rw [List.mem_singleton.1 hy]
        omega⟩)
       have HK1 := Lib.hid (show ∀ x, x ∈ R ++ [(k : Int)] ↔ ∃ n : Nat, x = (n : Int) ∧ n < k + 1 ∧ q n = true ∧ n ≠ 0 from fun x => by
        rw [List.mem_append, HK.out x, List.mem_singleton]
        constructor
        ·rintro (⟨n, e, h1, h2⟩ | rfl)
         ·exact ⟨n, e, by omega, h2⟩
         ·exact ⟨k, rfl, by omega, HY.out, hk0⟩
        ·rintro ⟨n, e, h1, h2, h3⟩
         rcases Nat.lt_or_ge n k with h | h
         ·exact .inl ⟨n, e, h, h2, h3⟩
         ·obtain rfl : n = k := by omega
          exact .inr e)
       have hRl : (R ++ [(k : Int)]).length ≤ k + 1 := by simp; omega
       clear hr1 ho1 hb1 HR HW HK HO
       go_wp2_with (at_builtin; refine wpList_append_by rfl _ _ 41 41 rfl _ _ _ _ rfl rfl HR1.out ?_)
       go_light
       go_roundw
       case rel => exact ⟨k + 1, _, by go_num, by omega, hRl, HK1, HOr, HO1, HW1⟩
       case measure => simp [intOf]; omega
     | false =>
      have hix := index_bool bq (hbk k hlt) hlt
      rw [hqk] at hix
      have HY := Lib.hid hqk
      clear hqk
      go_wp2
      go_roundw
      case rel => exact ⟨k + 1, R, by go_num, by omega, by omega, Lib.hid (fun x => (HK.out x).trans ⟨fun ⟨n, e, h1, h2⟩ => ⟨n, e, by omega, h2⟩, fun ⟨n, e, h1, h2, h3⟩ => by
       rcases Nat.lt_or_ge n k with h | h
       ·exact ⟨n, e, h, h2, h3⟩
       ·obtain rfl : n = k := by omega
        rw [HY.out] at h2
        cases h2⟩), HO, HR, HW⟩
      case measure => simp [intOf]; omega
    ·have hdl : ¬ (k : Int) < 65 := by omega
     obtain rfl : k = 65 := by omega
     have HFin := Lib.hid (show IsLabels N l R from ⟨HO.out, fun x => (HK.out x).trans ⟨fun ⟨n, e, h1, h2, h3⟩ => by
      rw [e]
      exact (HF.out n).1 ⟨h2, h3⟩, fun h => by
      obtain ⟨h1, m, h2, h3⟩ := h
      have h4 := (rightN_accept HRt.out).2 x (List.mem_of_getElem? h3)
      obtain ⟨n, rfl⟩ := Int.eq_ofNat_of_zero_le h4.1
      obtain ⟨h5, h6⟩ := (HF.out n).2 ⟨h1, m, h2, h3⟩
      exact ⟨n, rfl, by omega, h5, h6⟩⟩⟩)
     have HRC := Lib.hid (show ∃ A' c, u8 = .slice A' R.length c ∧ IntsAt wr A' R ∧ R.length ≤ c from by
      obtain ⟨A', c, e⟩ := own_slice HR.out
      refine ⟨A', c, e, ?_, ?_⟩
      ·have h1 := HR.out
       rw [e] at h1
       exact own_intsC h1
      ·rcases Nat.eq_zero_or_pos R.length with h | h
       ·omega
       ·obtain ⟨_, c2, e2, _, _, h3⟩ := own_form_capC HR.out h
        rw [e] at e2
        cases e2
        exact h3)
     obtain ⟨A', c, rfl, hi, hc⟩ := HRC.out
     have HI := Lib.hid hi
     clear HRC hi HR
     go_wp2
     go_light
     go_ret
     exact ⟨R, HFin.out, A', c, rfl, HW.out, HI.out, hc⟩
def ListV (P : List Int → Prop) (w : World) (e : Ending) (w' : World) : Prop := ∃ R A c, P R ∧ e = .returned (.slice A R.length c) ∧ Below w.heap.size w w' ∧ IntsAt w' A R ∧ R.length ≤ c
def ClosC (N : NfaV) : Prop := ∀ (g lm em : Nat) (A3 : Option Addr) (k3 : Nat) (w : World), WorkAt w g lm em N A3 k3 → ∀ (A : Option Addr) (cap : Nat) (l : List Int), IntsAt w A l → l.length ≤ 10000000000000 → l.length ≤ cap →
 Calls Tryz.prog 29 #[.pointer (some ⟨g, 0, none⟩), .slice A l.length cap] w (ListV (IsClos N.links N.states l) w)
theorem mstart_go (g lm em : Nat) (N : NfaV) (hC : ClosC N) (A3 : Option Addr) (k3 : Nat) (w : World) (hA : WorkAt w g lm em N A3 k3) :
  Calls Tryz.prog 35 #[.pointer (some ⟨g, 0, none⟩)] w (ListV (IsClos N.links N.states [N.start]) w) := by
 have x1 := hA.box.cell 1
 have hlx := hA.box.lt
 simp only [List.getElem?_toArray, List.getElem?_cons_zero, List.getElem?_cons_succ] at x1
 have hb1 : Below w.heap.size w (w.alloc (.cells #[.int .i64 N.start] 3)) := (Below.refl _ _).alloc (Nat.le_refl _) _
 have HC := Lib.hid (hC g lm em A3 k3 _ (hA.below hb1) (some ⟨w.heap.size, 0, none⟩) 1 [N.start] (one_int w N.start) (by simp) (by simp))
 have HB := Lib.hid hb1
 clear hA hb1 hC
 go_enter Tryz.func35, Tryz.ntmps35
 go_wp2_with fail
 refine HC.out.mono ?_
 rintro e w2 ⟨R, A, c, hr, rfl, hb2, hi, hc⟩
 have HF := Lib.hid (show _ ∧ _ ∧ _ ∧ _ from ⟨hr, HB.out.trans (hb2.mono HB.out.size), hi, hc⟩)
 clear hr hb2 hi hc HC HB x1
 dsimp only
 go_wp2
 go_light
 go_ret
 exact ⟨R, A, c, HF.out.1, rfl, HF.out.2.1, HF.out.2.2.1, HF.out.2.2.2⟩
end Go.Proofs.YtfekpkelmliejaaGreatDoor
namespace Go.Proofs.YtfekpkelmliejaaGreatDoor
set_option linter.unusedSimpArgs false
set_option linter.unusedVariables false
set_option maxRecDepth 100000
set_option maxHeartbeats 8000000
structure WayC (N : NfaV) (l : List Int) (p : Nat → Bool) (ws : List Int) : Prop where
 within : ∀ c, p c = true → (c : Int) < N.states
 sound : ∀ c, p c = true → Leads N.links (fun s => s ∈ l ∧ 0 ≤ s ∧ s < N.states) (c : Int)
 seen : ∀ s ∈ ws, 0 ≤ s ∧ p s.toNat = true
def Shut (N : NfaV) (p : Nat → Bool) (ws : List Int) (x : Int) (k : Nat) : Prop :=
 ∀ a b : Int, (a, b) ∈ N.links → 0 ≤ a → p a.toNat = true → a ∉ ws → a ≠ x ∨ (∃ j, j < k ∧ (linksOf N x)[j]? = some b) → p b.toNat = true
theorem fitB_iff {S : Nat} {c : Int} : fitB S c = true ↔ 0 ≤ c ∧ c < (S : Int) := by
 unfold fitB
 rw [Bool.and_eq_true, decide_eq_true_eq, decide_eq_true_eq]
theorem newB_iff {S : Nat} {p : Nat → Bool} {c : Int} : newB S p c = true ↔ (0 ≤ c ∧ c < (S : Int)) ∧ p c.toNat = false := by
 unfold newB
 rw [Bool.and_eq_true, fitB_iff]
 simp
theorem withB_iff {p : Nat → Bool} {m c : Nat} : withB p m c = true ↔ p c = true ∨ c = m := by
 unfold withB
 simp
def waitB (S : Nat) (p : Nat → Bool) (ws : List Int) (c : Int) : List Int := if newB S p c = true then ws ++ [c] else ws
theorem putB_iff {S : Nat} {p : Nat → Bool} {c : Int} {m : Nat} : putB S p c m = true ↔ p m = true ∨ ((0 ≤ c ∧ c < (S : Int)) ∧ (m : Int) = c) := by
 unfold putB
 cases h : newB S p c with
 | true =>
  obtain ⟨h1, h2⟩ := newB_iff.1 h
  rw [if_pos rfl, withB_iff]
  constructor
  ·rintro (h3 | h3)
   ·exact .inl h3
   ·exact .inr ⟨h1, by omega⟩
  ·rintro (h3 | ⟨_, h3⟩)
   ·exact .inl h3
   ·exact .inr (by omega)
 | false =>
  rw [if_neg (by decide)]
  constructor
  ·exact .inl
  ·rintro (h3 | ⟨h1, h3⟩)
   ·exact h3
   ·cases hp : p m with
    | true => rfl
    | false =>
     have : newB S p c = true := newB_iff.2 ⟨h1, by rw [← h3]; simpa using hp⟩
     rw [h] at this
     cases this
theorem mem_waitB {S : Nat} {p : Nat → Bool} {ws : List Int} {c s : Int} : s ∈ waitB S p ws c ↔ s ∈ ws ∨ (newB S p c = true ∧ s = c) := by
 unfold waitB
 split
 ·rename_i h
  simp [h]
 ·rename_i h
  simp [h]
theorem WayC.put {N : NfaV} {l : List Int} {p : Nat → Bool} {ws : List Int} (h : WayC N l p ws) {S : Nat} (hS : N.states = (S : Int)) {c : Int} (hc : 0 ≤ c → c < N.states → Leads N.links (fun s => s ∈ l ∧ 0 ≤ s ∧ s < N.states) c) : WayC N l (putB S p c) (waitB S p ws c) := by
 refine ⟨fun m hm => ?_, fun m hm => ?_, fun s hs => ?_⟩
 ·rcases putB_iff.1 hm with h1 | ⟨h1, h2⟩
  ·exact h.within m h1
  ·omega
 ·rcases putB_iff.1 hm with h1 | ⟨h1, h2⟩
  ·exact h.sound m h1
  ·rw [h2]
   exact hc h1.1 (by omega)
 ·rcases mem_waitB.1 hs with h1 | ⟨h1, rfl⟩
  ·exact ⟨(h.seen s h1).1, putB_iff.2 (.inl (h.seen s h1).2)⟩
  ·obtain ⟨h2, h3⟩ := newB_iff.1 h1
   exact ⟨h2.1, putB_iff.2 (.inr ⟨h2, by omega⟩)⟩
theorem Shut.put {N : NfaV} {p : Nat → Bool} {ws : List Int} {x : Int} {k : Nat} (h : Shut N p ws x k) (S : Nat) (c : Int) : Shut N (putB S p c) (waitB S p ws c) x k := by
 intro a b hab h0 hp hw hx
 refine putB_iff.2 (.inl ?_)
 rcases putB_iff.1 hp with h1 | ⟨h1, h2⟩
 ·exact h a b hab h0 h1 (fun e => hw (mem_waitB.2 (.inl e))) hx
 ·cases hn : newB S p c with
  | true => exact absurd (mem_waitB.2 (.inr ⟨hn, by omega⟩)) hw
  | false =>
   have h3 : p a.toNat = true := by
    cases h4 : p a.toNat with
    | true => rfl
    | false =>
     have : newB S p c = true := newB_iff.2 ⟨h1, by rw [show c.toNat = a.toNat by omega]; simpa using h4⟩
     rw [hn] at this
     cases this
   exact h a b hab h0 h3 (fun e => hw (mem_waitB.2 (.inl e))) hx
theorem Shut.more {N : NfaV} {p : Nat → Bool} {ws : List Int} {x : Int} {k : Nat} (h : Shut N p ws x k) {b : Int} (hb : (linksOf N x)[k]? = some b) (hp : p b.toNat = true) : Shut N p ws x (k + 1) := by
 intro a c hac h0 hpa hw hx
 rcases hx with hx | ⟨j, hj, hc⟩
 ·exact h a c hac h0 hpa hw (.inl hx)
 ·rcases Nat.lt_or_ge j k with hlt | hge
  ·exact h a c hac h0 hpa hw (.inr ⟨j, hlt, hc⟩)
  ·obtain rfl : j = k := by omega
   rw [hb] at hc
   cases hc
   exact hp
theorem Shut.all {N : NfaV} {p : Nat → Bool} {ws : List Int} {x : Int} {k : Nat} (h : Shut N p ws x k) (hk : (linksOf N x).length ≤ k) (y : Int) : Shut N p ws y 0 := by
 intro a b hab h0 hpa hw _
 by_cases hax : a = x
 ·subst hax
  obtain ⟨j, hj, e⟩ := List.mem_iff_getElem.1 (linksOf_mem.2 hab)
  exact h a b hab h0 hpa hw (.inr ⟨j, by omega, by rw [List.getElem?_eq_getElem hj, e]⟩)
 ·exact h a b hab h0 hpa hw (.inl hax)
theorem Shut.take {N : NfaV} {p : Nat → Bool} {ws : List Int} {x y : Int} (h : Shut N p (ws ++ [x]) y 0) (hy : y = -1) : Shut N p ws x 0 := by
 intro a b hab h0 hpa hw hx
 refine h a b hab h0 hpa (fun e => ?_) (.inl (by omega))
 rcases List.mem_append.1 e with e | e
 ·exact hw e
 ·have e := List.mem_singleton.1 e
  rcases hx with hx | ⟨j, hj, _⟩
  ·exact hx e
  ·omega
theorem WayC.take {N : NfaV} {l : List Int} {p : Nat → Bool} {ws : List Int} {x : Int} (h : WayC N l p (ws ++ [x])) : WayC N l p ws := ⟨h.within, h.sound, fun s hs => h.seen s (List.mem_append.2 (.inl hs))⟩
def seenL (p : Nat → Bool) (S : Nat) : List Int := (elems p S).map fun c : Nat => (c : Int)
theorem seenL_mem {p : Nat → Bool} {S : Nat} {x : Int} : x ∈ seenL p S ↔ ∃ c : Nat, c < S ∧ p c = true ∧ x = (c : Int) := by
 unfold seenL elems
 rw [List.mem_map]
 constructor
 ·rintro ⟨c, h, rfl⟩
  obtain ⟨h1, h2⟩ := List.mem_filter.1 h
  exact ⟨c, List.mem_range.1 h1, h2, rfl⟩
 ·rintro ⟨c, h1, h2, rfl⟩
  exact ⟨c, List.mem_filter.2 ⟨List.mem_range.2 h1, h2⟩, rfl⟩
theorem seenL_rises (p : Nat → Bool) (S : Nat) : Rises (seenL p S) := by
 unfold seenL elems Rises
 rw [List.pairwise_map]
 refine List.Pairwise.imp (fun h => ?_) (List.Pairwise.filter p List.pairwise_lt_range)
 omega
theorem WayC.clos {N : NfaV} {l : List Int} {p : Nat → Bool} (h : WayC N l p []) {S m : Nat} (hS : N.states = (S : Int)) (hm : S ≤ m) (hl : ∀ s ∈ l, 0 ≤ s → s < N.states → p s.toNat = true) (hs : Shut N p [] (-1) 0) (hR : rightN N = true) : IsClos N.links N.states l (seenL p m) :=
 ⟨seenL_rises p m, fun x => ⟨fun hx => by
  obtain ⟨c, _, h2, rfl⟩ := seenL_mem.1 hx
  exact h.sound c h2, fun hx => by
  have key : 0 ≤ x ∧ p x.toNat = true := by
   induction hx with
   | here hs => exact ⟨hs.2.1, hl _ hs.1 hs.2.1 hs.2.2⟩
   | @link a b _ hk ih => exact ⟨(rightN_links hR hk).2.1, hs a b hk ih.1 ih.2 (by simp) (.inl (by have := ih.1; omega))⟩
  have h1 := h.within x.toNat key.2
  exact seenL_mem.2 ⟨x.toNat, by omega, key.2, by omega⟩⟩⟩
def cntB (p : Nat → Bool) (S : Nat) : Nat := (List.range S).countP p
theorem cntB_le (p : Nat → Bool) (S : Nat) : cntB p S ≤ S := by
 unfold cntB
 have := List.countP_le_length (p := p) (l := List.range S)
 simpa using this
theorem cntB_ext {p q : Nat → Bool} {S : Nat} (h : ∀ c, c < S → p c = q c) : cntB p S = cntB q S := by
 unfold cntB
 refine List.countP_congr fun c hc => ?_
 rw [h c (List.mem_range.1 hc)]
theorem cntB_with {p : Nat → Bool} {m : Nat} (hp : p m = false) : ∀ {S : Nat}, m < S → cntB (withB p m) S = cntB p S + 1 := by
 intro S
 induction S with
 | zero => intro h; omega
 | succ S ih =>
  intro h
  unfold cntB at *
  rw [List.range_succ, List.countP_append, List.countP_append]
  by_cases hm : m = S
  ·subst hm
   have e1 : (List.range m).countP (withB p m) = (List.range m).countP p := List.countP_congr fun c hc => by
    have := List.mem_range.1 hc
    rw [withB_iff]
    constructor
    ·rintro (h | h)
     ·exact h
     ·omega
    ·exact .inl
   have e2 : withB p m m = true := withB_iff.2 (.inr rfl)
   rw [e1]
   simp [e2, hp]
  ·have e1 := ih (by omega)
   have e2 : withB p m S = p S := by
    cases h1 : p S with
    | true => exact withB_iff.2 (.inl h1)
    | false =>
     cases h2 : withB p m S with
     | false => rfl
     | true =>
      rcases withB_iff.1 h2 with h3 | h3
      ·rw [h1] at h3; cases h3
      ·omega
   rw [e1]
   simp [e2]
   omega
def leftB (p : Nat → Bool) (S n : Nat) : Nat := 2 * (S - cntB p S) + n
theorem leftB_put {S : Nat} {p : Nat → Bool} {ws : List Int} {c : Int} : leftB (putB S p c) S (waitB S p ws c).length ≤ leftB p S ws.length := by
 unfold leftB putB waitB
 cases h : newB S p c with
 | true =>
  obtain ⟨h1, h2⟩ := newB_iff.1 h
  have h3 := cntB_with (S := S) h2 (by omega)
  have h4 := cntB_le (withB p c.toNat) S
  rw [if_pos rfl, if_pos rfl, h3]
  rw [h3] at h4
  simp only [List.length_append, List.length_singleton]
  omega
 | false =>
  rw [if_neg (by decide), if_neg (by decide)]
  exact Nat.le_refl _
end Go.Proofs.YtfekpkelmliejaaGreatDoor
namespace Go.Proofs.YtfekpkelmliejaaGreatDoor
open Go.RowKit Go.Shelf
set_option linter.unusedSimpArgs false
set_option linter.unusedVariables false
set_option maxRecDepth 100000
set_option maxHeartbeats 8000000
attribute [local go_sem] Oper.semAt_some
def intArg (x : Nat) : Array Value := #[.int .i64 (x : Int)]
theorem beach1_in (n : Nat) (hn : 1 ≤ n) (p : Nat → Bool) (S g h : Nat) (hS : S ≤ 1048576) (l Bs n₀ : Nat) (hBs : 1 < n₀) (hg : g < n₀) (hh : h < n₀) (J Jx : List Nat → World → Prop)
  (hY : ∀ pre x W, J pre W → pre.length < 1048640 → YieldAt Fence.wide (n - 1) Tryz.prog l (intArg x) W fun e W' =>
   (e = .returned (.bool true) ∧ J (pre ++ [x]) W' ∧ Below n₀ W W') ∨ (e = .returned (.bool false) ∧ Jx (pre ++ [x]) W'))
  (W : World) (hs : Blk W Bs 103 #[.pointer (some ⟨g, 0, none⟩)]) (hA : BitsAt W g h S p) (hT : TabAt 1 Lib.deBruijn64tab W) (h0 : J [] W) :
  CallsIn Fence.wide n Tryz.prog 171 #[.func (.yield l) #[] #[], .pointer (some ⟨Bs, 0, none⟩)] W fun e W' => (∃ v, e = .returned v) ∧
   ((∃ ys, ys = elems p (64 * ((S + 63) / 64)) ∧ J ys W') ∨ (∃ pre, (∃ k, k ≤ 64 * ((S + 63) / 64) ∧ pre = elems p k) ∧ Jx pre W')) := by
 refine callsIn_of_wp Tryz.func171 rfl trivial ?_ rfl
 simp only [Tryz.ntmps171, List.size_toArray, List.length_cons, List.length_nil, Nat.reduceAdd, Nat.reduceSub, Array.replicate_succ, Array.replicate_zero, List.push_toArray, List.append_toArray, List.nil_append, List.cons_append]
 have s0 := hs.cell 0
 have x1 := hA.box.cell 1
 have hlx := hA.box.lt
 simp only [List.getElem?_toArray, List.getElem?_cons_zero, List.getElem?_cons_succ] at s0 x1
 have hnw : (S + 63) / 64 ≤ 16385 := by omega
 generalize hnwe : (S + 63) / 64 = nw at *
 have HNW := Lib.hid hnwe
 have HA := Lib.hid hA
 clear hnwe hA
 gi_wp2
 gi_loopw [12] (fun v wr => ∃ i : Nat, i ≤ nw ∧ v = .int .i64 (i : Int) ∧ J (elems p (64 * i)) wr ∧ Below n₀ W wr)
  (fun v _ => nw - (intOf v).toNat)
 case atStart => exact ⟨0, by omega, rfl, h0, Below.refl _ _⟩
 case round =>
  obtain ⟨i, hi, rfl, hJ, hB⟩ := hrel
  by_cases hlt : i < nw
  ·have y0 := (HA.out.row.below hB hh).cell i
   rw [wordsU_get p (by rw [HNW.out]; exact hlt)] at y0
   have hd : (i : Int) < (nw : Int) := by omega
   gi_wp2
   try rw [decide_eq_true hd]
   gi_loopw [4] (fun v w2 => ∃ m : Nat, m ≤ 64 * i + 64 ∧ 64 * i ≤ m ∧ v = .int .u64 ((word (fun c => p c && decide (m ≤ c)) i : Nat) : Int) ∧ J (elems p m) w2 ∧ Below n₀ W w2)
    (fun v _ => (intOf v).toNat)
   case atStart => exact ⟨64 * i, by omega, Nat.le_refl _, by rw [word_start], hJ, hB⟩
   case round =>
    obtain ⟨m, hm1, hm2, rfl, hJ2, hB2⟩ := hrel
    by_cases hz : word (fun c => p c && decide (m ≤ c)) i = 0
    ·have hend := elems_end p i m hm1 hm2 hz
     rw [hz]
     gi_wp2
     exact ⟨⟨i + 1, by omega, by simp, by rw [hend]; exact hJ2, hB2⟩, by simp [intOf]; omega⟩
    ·obtain ⟨hk, hmk, hel, hand, hless⟩ := elems_next p i m hm1 hm2 hz
     have hx := word_lt (fun c => p c && decide (m ≤ c)) i
     generalize hwx : word (fun c => p c && decide (m ≤ c)) i = x at *
     have hx0 : ((x : Int) == 0) = false := by simp; omega
     have hTx : TabAt 1 Lib.deBruijn64tab _ := fun j hj => (hB2.cell (p := ⟨1, j, none⟩) (by show 1 < n₀; omega)).trans (hT j hj)
     have htz := tz_go x hx hz _ hTx
     generalize Lib.ctz 64 x = k at *
     obtain ⟨fn, tmps, assign, body, hy, hR⟩ := hY _ (64 * i + k) _ hJ2 (by have := elems_len p m; omega)
     unfold intArg at hy
     have ev : ((64 * i + k : Nat) : Int) = (i : Int) * 64 + (k : Int) := by omega
     rw [ev] at hy
     have esub : IntKind.u64.wrap ((x : Int) - 1) = ((x - 1 : Nat) : Int) := by rw [IntKind.wrap_u64]; omega
     have eand : bits .and .u64 (x : Int) ((x - 1 : Nat) : Int) = ((word (fun c => p c && decide (64 * i + k + 1 ≤ c)) i : Nat) : Int) := by
      rw [← hand]; exact u64_and_nat x (x - 1) hx (by omega)
     clear hwx
     gi_wp2_with (refine ⟨trivial, ?_⟩; gi_at_call 172; refine (callsIn_wide.2 htz).mono ?_; rintro e w' ⟨rfl, rfl⟩)
     refine hR.mono ?_
     rintro e W3 (⟨rfl, hJ3, hk3⟩ | ⟨rfl, hJx3⟩)
     ·gi_wp2
      go_roundw
      case rel => exact ⟨64 * i + k + 1, by omega, by omega, rfl, by rw [hel]; exact hJ3, hB2.trans hk3⟩
      case measure => simp [intOf]; omega
     ·gi_wp2
      refine bodyPost_ret (results_none rfl _ _ _) rfl ?_
      exact ⟨⟨_, rfl⟩, .inr ⟨_, ⟨64 * i + k + 1, by omega, hel.symm⟩, hJx3⟩⟩
  ·obtain rfl : i = nw := by omega
   gi_wp2
   go_end0
   exact ⟨⟨_, rfl⟩, .inl ⟨_, rfl, hJ⟩⟩
theorem beach_go (g : Nat) (w : World) :
  Calls Tryz.prog 125 #[.pointer (some ⟨g, 0, none⟩)] w fun e w' => e = .returned (.func (.func 171) #[] #[.pointer (some ⟨w.heap.size, 0, none⟩)]) ∧ w' = w.alloc (.cells #[.pointer (some ⟨g, 0, none⟩)] 103) := by
 go_enter Tryz.func125, Tryz.ntmps125
 go_wp2
 go_light
 go_ret
 exact ⟨rfl, rfl⟩
theorem BitsAt.lts {w : World} {g h S : Nat} {p : Nat → Bool} (hA : BitsAt w g h S p) : g < w.heap.size ∧ h < w.heap.size := ⟨hA.box.lt, hA.row.lt⟩
theorem beach_stops (n : Nat) (hn : 1 ≤ n) (p : Nat → Bool) (S g h : Nat) (hS : S ≤ 1048576) (Bs n₀ : Nat) (w : World) (hBs : 1 < n₀) (hg : g < n₀) (hh : h < n₀) (hs : Blk w Bs 103 #[.pointer (some ⟨g, 0, none⟩)]) (hA : BitsAt w g h S p) (hT : TabAt 1 Lib.deBruijn64tab w) :
  SeqStopsK Fence.wide n Tryz.prog 171 #[.pointer (some ⟨Bs, 0, none⟩)] intArg (Below n₀) (fun ys => ys = elems p (64 * ((S + 63) / 64))) (fun pre => ∃ k, k ≤ 64 * ((S + 63) / 64) ∧ pre = elems p k) 1048640 w := fun l J Jx W hW _ _ hY h0 =>
 beach1_in n hn p S g h hS l Bs n₀ hBs hg hh J Jx hY W (hs.below hW hs.lt) (hA.below hW hA.lts.1 hA.lts.2) (TabAt.below hW (World.block_lt_of_cell? w _ (hT 0 (by decide))) hT) h0
def natV (x : Nat) : Value := .int .i64 (x : Int)
theorem bappend_in (n : Nat) (hn : 3 ≤ n) (p : Nat → Bool) (S g h : Nat) (hS : S ≤ 1048576) (Bs : Nat) (w : World) (hs : Blk w Bs 103 #[.pointer (some ⟨g, 0, none⟩)]) (hA : BitsAt w g h S p) (hT : TabAt 1 Lib.deBruijn64tab w) (hw0 : 1 < w.heap.size) :
  CallsIn Fence.wide n Tryz.prog 170 #[.slice none 0 0, .func (.func 171) #[] #[.pointer (some ⟨Bs, 0, none⟩)]] w fun e W' => ∃ v, e = .returned v ∧ W'.ownsRow w.heap.size 3 1 v (elems p (64 * ((S + 63) / 64))).length ((elems p (64 * ((S + 63) / 64))).map natV) ∧ Below w.heap.size w W' := by
 have h1 : 1 ≤ n := by omega
 obtain ⟨i0, hi, hz0, hz1, hz2⟩ := info_parts info_intC
 refine callsIn_of_wp_marks Tryz.func170 rfl trivial ?_ rfl
 simp only [Tryz.ntmps170, List.size_toArray, List.length_cons, List.length_nil, Nat.reduceAdd, Nat.reduceSub, Array.replicate_succ, Array.replicate_zero, List.push_toArray, List.append_toArray, List.nil_append, List.cons_append]
 gi_wp2
 have bO := Boxed.new w 41 (.slice none 0 0)
 have hB0 : Below w.heap.size w (w.alloc (.cells #[.slice none 0 0] 41)) := (Below.refl _ w).alloc (Nat.le_refl _) _
 refine wpIn_rangeFunc_ownG rfl h1 (gf := 171) (lb := #[.pointer (some ⟨Bs, 0, none⟩)]) rfl trivial (enters_of Tryz.func171 (by kernel_rfl) rfl)
  (beach_stops (n - 1) (by omega) p S g h hS Bs w.heap.size _ hw0 hA.lts.1 hA.lts.2 (hs.below hB0 hs.lt) (hA.below hB0 hA.lts.1 hA.lts.2) (TabAt.below hB0 hw0 hT)) belowK_t (belowK_b (by simp)) (Below.refl _ _) (fun _ => rfl)
  (fun pre W => (∃ v, Boxed W w.heap.size 41 v ∧ W.ownsRow w.heap.size 3 1 v pre.length (pre.map natV) ∧ (v = .slice none 0 0 ↔ pre = [])) ∧ Below w.heap.size w W)
  (fun _ _ _ => False)
  (OwnFrom.and (Own.from (holdsRow_own w.heap.size w.heap.size 41 3 1 (fun pre : List Nat => pre.length) (fun pre => pre.map natV) (fun pre v => v = .slice none 0 0 ↔ pre = [])) _) (ownFrom_below (Nat.le_refl _) (by simp)))
  (fun _ _ _ _ _ hs _ _ => hs)
  ⟨⟨_, bO, World.ownsRow_nil _ _ _ _, by simp⟩, hB0⟩
  (fun x => { tmps := #[.slice none 0 0, .func (.func 171) #[] #[.pointer (some ⟨Bs, 0, none⟩)], .pointer (some ⟨w.heap.size, 0, none⟩), undef, .slice none 0 0, .int .i64 (x : Int), .func (.func 171) #[] #[.pointer (some ⟨Bs, 0, none⟩)], .int .i64 (x : Int), undef, undef, undef, undef, undef], defers := [] }) ?assign ?body ?done ?stop
 case assign =>
  intro l x W K hK
  unfold intArg
  gi_wp2
  exact hK
 case body =>
  rintro l pre x W ⟨⟨v, hv, hrow, hnil⟩, hB⟩ hlt
  have hc := hv.cell
  have hf := hv.frozen
  have hlt' : pre.length < 1048640 := hlt
  have hb1 : pre.length + 1 ≤ maxLen := Nat.le_trans (by omega) (show 2000000 ≤ maxLen by decide)
  have hb2 : (pre.length + 1) * 8 ≤ 140737488355328 := by omega
  gi_wp2_with (gi_at_builtin; refine wpListIn_append_own _ rfl _ _ 41 rfl w.heap.size 3 i0 (.int .i64 0) 1 8 Tryz.underlying41 hi hz0 hz1 hz2 rfl (by decide) _ _ _ rfl (hrow.alloc _) ⟨W.heap.size, 0, none⟩ 1 1 [.int .i64 (x : Int)] rfl rfl (cell_one_new _ _ _) (by simp [Value.oneCell']) hb1 hb2 (Nat.le_trans hB.size (by simp)) ?_; intro v' w1 hown' hgrow _; obtain ⟨g', cap', rfl⟩ := ownsRow_succ hown'; obtain ⟨hv1, hv2, hr2, hk2, hb2⟩ := hv.appended (by decide) hrow hB.size (by omega) hown' hgrow; have hc1 := hv1.cell; have hf1 := hv1.frozen)
  exact ⟨hk2.from _, hb2, ⟨_, hv2, by rw [List.length_append, List.map_append]; exact hr2, by simp⟩, hB.trans hb2⟩
 case done =>
  rintro D ys W hD rfl ⟨⟨v, hv, hrow, hnil⟩, hB⟩ hK
  have hc := hv.cell
  gi_wp2
  refine ⟨by simp, .inl ⟨_, _, rfl, run_takeDeferred hK, ?_⟩⟩
  exact ⟨_, results_tmp rfl _ _ _, v, rfl, ownsRow_putObj hrow _ hK rfl, hB.trans (belowK_b (w := w) (Nat.le_refl _) W D _ _ (by simp at hD; omega) hK rfl rfl)⟩
 case stop =>
  rintro D c pre W _ _ h _
  exact h.elim
theorem bcollect_in (n : Nat) (hn : 4 ≤ n) (p : Nat → Bool) (S g h : Nat) (hS : S ≤ 1048576) (Bs : Nat) (w : World) (hs : Blk w Bs 103 #[.pointer (some ⟨g, 0, none⟩)]) (hA : BitsAt w g h S p) (hT : TabAt 1 Lib.deBruijn64tab w) (hw0 : 1 < w.heap.size) :
  CallsIn Fence.wide n Tryz.prog 124 #[.func (.func 171) #[] #[.pointer (some ⟨Bs, 0, none⟩)]] w fun e W' => ∃ v, e = .returned v ∧ W'.ownsRow w.heap.size 3 1 v (elems p (64 * ((S + 63) / 64))).length ((elems p (64 * ((S + 63) / 64))).map natV) ∧ Below w.heap.size w W' := by
 have h1 : 1 ≤ n := by omega
 refine callsIn_of_wp Tryz.func124 rfl trivial ?_ rfl
 simp only [Tryz.ntmps124, List.size_toArray, List.length_cons, List.length_nil, Nat.reduceAdd, Nat.reduceSub, Array.replicate_succ, Array.replicate_zero, List.push_toArray, List.append_toArray, List.nil_append, List.cons_append]
 gi_wp2_with (refine ⟨trivial, ?_⟩; gi_at_call 170; refine (bappend_in (n - 1) (by omega) p S g h hS Bs _ hs hA hT hw0).mono ?_; rintro e w' ⟨v, rfl, hrow, hb⟩)
 go_ret
 exact ⟨v, rfl, hrow, hb⟩
theorem elems_more {p : Nat → Bool} {S m : Nat} (hm : S ≤ m) (hp : ∀ c, p c = true → c < S) : elems p m = elems p S := by
 refine elems_skip' p hm fun c h1 _ => ?_
 cases h : p c with
 | false => rfl
 | true => have := hp c h; omega
theorem ball_go (p : Nat → Bool) (S g h : Nat) (hS : S ≤ 1048576) (hp : ∀ c, p c = true → c < S) (w : World) (hA : BitsAt w g h S p) (hT : TabAt 1 Lib.deBruijn64tab w) (hw0 : 1 < w.heap.size) :
  Calls Tryz.prog 78 #[.pointer (some ⟨g, 0, none⟩)] w (ListV (fun L => L = seenL p S) w) := by
 have HE := Lib.hid (beach_go g w)
 have hb0 : Below w.heap.size w (w.alloc (.cells #[.pointer (some ⟨g, 0, none⟩)] 103)) := (Below.refl _ w).alloc (Nat.le_refl _) _
 have HC := Lib.hid (callsIn_wide.1 (bcollect_in 4 (Nat.le_refl _) p S g h hS w.heap.size _ (Blk.new _ _ _) (hA.below hb0 hA.lts.1 hA.lts.2) (TabAt.below hb0 hw0 hT) (by simp; omega)))
 have HB := Lib.hid hb0
 have HP := Lib.hid hp
 clear hb0 hA hT hp
 go_enter Tryz.func78, Tryz.ntmps78
 go_wp2_with fail
 refine HE.out.mono ?_
 rintro e w1 ⟨rfl, rfl⟩
 dsimp only
 go_wp2_with fail
 refine HC.out.mono ?_
 rintro e w2 ⟨v, rfl, hrow, hb⟩
 rw [elems_more (by omega) HP.out] at hrow
 have hrow2 : w2.ownsRow (w.alloc (.cells #[.pointer (some ⟨g, 0, none⟩)] 103)).heap.size 3 1 v (seenL p S).length (intsC (seenL p S)) := by
  unfold seenL intsC
  rw [List.length_map, List.map_map]
  exact hrow
 obtain ⟨A, c, rfl⟩ := own_slice hrow2
 have HR := Lib.hid hrow2
 have HB2 := Lib.hid (HB.out.trans (hb.mono (by simp)))
 clear hrow hrow2 hb HC HE
 dsimp only
 go_wp2
 go_light
 go_ret
 refine ⟨_, A, c, rfl, rfl, HB2.out, own_intsC HR.out, ?_⟩
 rcases Nat.eq_zero_or_pos (seenL p S).length with h | h
 ·omega
 ·obtain ⟨_, c2, e2, _, _, h3⟩ := own_form_capC HR.out h
  cases e2
  exact h3
end Go.Proofs.YtfekpkelmliejaaGreatDoor
namespace Go.Proofs.YtfekpkelmliejaaGreatDoor
open Go.RowKit
set_option linter.unusedSimpArgs false
set_option linter.unusedVariables false
set_option maxRecDepth 100000
set_option maxHeartbeats 8000000
def WaitV (w : World) (base : Nat) (v : Value) (ws : List Int) : Prop :=
 w.ownsRow base 3 1 v ws.length (intsC ws) ∨ ∃ b cur, v = .slice (some ⟨b, 0, none⟩) ws.length ws.length ∧ IntsAt w (some ⟨b, 0, none⟩) ws ∧ base ≤ b ∧ Blk w b 3 cur
theorem WaitV.slice {w : World} {base : Nat} {v : Value} {ws : List Int} (h : WaitV w base v ws) : ∃ A c, v = .slice A ws.length c ∧ IntsAt w A ws ∧ ws.length ≤ c := by
 rcases h with h | ⟨b, cur, rfl, hi, _, _⟩
 ·obtain ⟨A, c, rfl⟩ := own_slice h
  refine ⟨A, c, rfl, own_intsC h, ?_⟩
  rcases Nat.eq_zero_or_pos ws.length with h0 | h0
  ·omega
  ·obtain ⟨_, c2, e2, _, _, h3⟩ := own_form_capC h h0
   cases e2
   exact h3
 ·exact ⟨_, _, rfl, hi, Nat.le_refl _⟩
theorem WaitV.moved {w w' : World} {base : Nat} {v : Value} {ws : List Int} (h : WaitV w base v ws) (hm : ∀ b cs, Blk w b 3 cs → Blk w' b 3 cs) : WaitV w' base v ws := by
 rcases h with h | ⟨b, cur, rfl, hi, hb, hk⟩
 ·refine .inl (ownsRow_block h fun j hj => ?_)
  rcases h.2 with ⟨rfl, _⟩ | ⟨g, cap, cur, rfl, _, hg, _⟩
  ·simp [Value.ownBlock] at hj
  ·obtain rfl : g = j := by simpa [Value.ownBlock] using hj
   rw [hg]
   exact hm g cur hg
 ·refine .inr ⟨b, cur, rfl, fun i a ha => ?_, hb, hm b cur hk⟩
  obtain ⟨b', o', e, hc⟩ := hi i a ha
  cases e
  refine ⟨b, 0, rfl, ?_⟩
  have h1 := hk.cell (0 + i)
  have h2 := (hm b cur hk).cell (0 + i)
  rw [h2, ← h1]
  exact hc
theorem WaitV.push {w : World} {base : Nat} {v : Value} {ws : List Int} (h : WaitV w base v ws) (a : Int) (hs : ws.length + 1 ≤ 10000000000000) (hbase : base ≤ w.heap.size) :
  ∃ v' w', (Builtin.append_ #[41, 41] 41 #[v, .slice (some ⟨w.heap.size, 0, none⟩) 1 1]).run Tryz.prog (w.alloc (.cells #[.int .i64 a] 3)) = .ok v' w' ∧ w'.ownsRow base 3 1 v' (ws ++ [a]).length (intsC (ws ++ [a])) ∧
   (∀ b t cs, t ≠ 3 → Blk w b t cs → Blk w' b t cs) ∧ ∀ B a0, Below B a0 w → B ≤ base → Below B a0 w' := by
 rcases h with h | ⟨b, cur, rfl, hi, hb, hk⟩
 ·have ho : (w.alloc (.cells #[.int .i64 a] 3)).ownsRow base 3 1 v ws.length (intsC ws) := h.alloc _
  obtain ⟨v', w', h1, h2, h3⟩ := append_own_ints (w.alloc (.cells #[.int .i64 a] 3)) base v ws ho 1 (one_int w a) (by simpa using hs) (by simp; omega) 41 41 Tryz.underlying41
  refine ⟨v', w', h1, h2, fun b t cs ht hb => Blk.grown (hb.alloc _) h3 (blk_not_row hb ht h), fun B a0 hb hle => below_grown (hb.alloc (by have := hb.size; omega) (.cells #[.int .i64 a] 3)) h3 ho hle (by simp; omega)⟩
 ·obtain ⟨i0, hi0, hz0, hz1, hz2⟩ := info_parts info_intC
  have hold : ∀ j u, (intsC ws)[j]? = some u → (w.alloc (.cells #[.int .i64 a] 3)).cell? ((⟨b, 0, none⟩ : Addr).add j) = some u := fun j u hj => by
   unfold intsC at hj
   rw [List.getElem?_map] at hj
   cases hx : ws[j]? with
   | none => rw [hx] at hj; cases hj
   | some x =>
    rw [hx] at hj
    obtain ⟨b', o', e, h0⟩ := hi j x hx
    cases e
    rw [addr_plusC, ((Below.refl w.heap.size w).alloc (Nat.le_refl _) (.cells #[.int .i64 a] 3)).cell (p := ⟨b, 0 + j, none⟩) hk.lt, h0]
    exact hj
  obtain ⟨v', w', h1, h2, h3⟩ := run_append_arg_grows (P := Tryz.prog) (w.alloc (.cells #[.int .i64 a] 3)) 41 41 3 i0 _ 1 8 Tryz.underlying41 hi0 hz0 hz1 hz2 rfl (by decide) ⟨b, 0, none⟩ ws.length ws.length (intsC ws) (by simp [intsC]) hold ⟨w.heap.size, 0, none⟩ 1 1 [.int .i64 a] rfl (cell_one_new _ _ _) (by omega) (Nat.le_trans hs (by decide)) (by omega)
  have hb0 : Below w.heap.size w (w.alloc (.cells #[.int .i64 a] 3)) := (Below.refl _ _).alloc (Nat.le_refl _) _
  have key : ∀ j, j < w.heap.size → w'.heap[j]? = w.heap[j]? := fun j hj => (h3.block j (by simp; omega) (by simp)).trans (hb0.block j hj)
  refine ⟨v', w', h1, ?_, fun c t cs _ hc => (key c hc.lt).trans hc, fun B a0 hB hle => (hB.alloc (by have := hB.size; omega) (.cells #[.int .i64 a] 3)).grown h3 (by simp; omega) (fun k e => by cases e)⟩
  rw [List.length_append, intsC_snoc]
  refine ⟨h2.1, ?_⟩
  rcases h2.2 with h4 | ⟨g, c, cur', e, h5, h6⟩
  ·exact .inl h4
  ·exact .inr ⟨g, c, cur', e, Nat.le_trans (by simp; omega) h5, h6⟩
structure PutAt (w : World) (base g h bt bw S : Nat) (p : Nat → Bool) (ws : List Int) : Prop where
 set : BitsAt w g h S p
 there : Blk w bt 103 #[.pointer (some ⟨g, 0, none⟩)]
 waits : ∃ v, Blk w bw 41 #[v] ∧ WaitV w base v ws
 bg : base ≤ g
 bh : base ≤ h
 bbt : base ≤ bt
 bbw : base ≤ bw
theorem blk_apart {w : World} {a b : Nat} {t u : TypeId} {cs ds : Array Value} (h : Blk w a t cs) (h2 : Blk w b u ds) (ht : t ≠ u) : a ≠ b := fun e => by
 subst e
 have := (show w.heap[a]? = _ from h).symm.trans h2
 simp at this
 exact ht this.2
theorem cput_go (base g h bt bw S : Nat) (p : Nat → Bool) (ws : List Int) (c : Int) (w : World) (hA : PutAt w base g h bt bw S p ws) (hS : S ≤ 1048576) (hws : ws.length + 1 ≤ 10000000000000) (hbase : base ≤ w.heap.size) :
  Calls Tryz.prog 76 #[.int .i64 c, .pointer (some ⟨bt, 0, none⟩), .pointer (some ⟨bw, 0, none⟩)] w fun e w' => e = .returned (.tuple #[]) ∧ PutAt w' base g h bt bw S (putB S p c) (waitB S p ws c) ∧ ∀ B a, Below B a w → B ≤ base → Below B a w' := by
 have HP := Lib.hid (bput_go g h S p c w hA.set hS)
 have hth := blk_apart hA.there hA.set.row (by decide)
 obtain ⟨v, hv, hW⟩ := hA.waits
 have hwh := blk_apart hv hA.set.row (by decide)
 have hwt := blk_apart hv hA.there (by decide)
 have hwg := blk_apart hv hA.set.box (by decide)
 have x0 := hA.there.cell 0
 have hlx := hA.there.lt
 simp only [List.getElem?_toArray, List.getElem?_cons_zero] at x0
 have HA := Lib.hid hA
 have HV := Lib.hid hv
 have HW := Lib.hid hW
 clear hA hv hW
 cases hn : newB S p c with
 | false =>
  rw [hn] at HP
  have HE := Lib.hid (show waitB S p ws c = ws by unfold waitB; rw [hn]; rfl)
  clear hn
  go_enter Tryz.func76, Tryz.ntmps76
  go_wp2_with fail
  refine HP.out.mono ?_
  rintro e w1 ⟨rfl, hB, hM⟩
  have HB := Lib.hid hB
  have HM := Lib.hid hM
  clear hB hM HP x0
  dsimp only
  go_wp2
  go_end0
  refine ⟨rfl, ⟨HB.out, HM.out.blk hth HA.out.there, ⟨v, HM.out.blk hwh HV.out, ?_⟩, HA.out.bg, HA.out.bh, HA.out.bbt, HA.out.bbw⟩, fun B a hb hle => HM.out.below hb (Nat.le_trans hle HA.out.bh)⟩
  rw [HE.out]
  exact HW.out.moved fun b cs hb => HM.out.blk (blk_apart hb HA.out.set.row (by decide)) hb
 | true =>
  rw [hn] at HP
  have HE := Lib.hid (show waitB S p ws c = ws ++ [c] by unfold waitB; rw [hn]; rfl)
  clear hn
  go_enter Tryz.func76, Tryz.ntmps76
  go_wp2_with fail
  refine HP.out.mono ?_
  rintro e w1 ⟨rfl, hB, hM⟩
  have hsz := hM.size
  have hv1 := hM.blk hwh HV.out
  have hW1 := HW.out.moved fun b cs hb => hM.blk (blk_apart hb HA.out.set.row (by decide)) hb
  obtain ⟨v', w2, hr, ho, hk, hbl⟩ := hW1.push c hws (by omega)
  obtain ⟨A', c', rfl⟩ := own_slice ho
  have hv2 := hk _ _ _ (by decide) hv1
  have hlv1 := hv1.lt
  have y1 := hv1.cell 0
  have y2 := hv2.cell 0
  have f2 := hv2.frozen 0
  simp only [List.getElem?_toArray, List.getElem?_cons_zero] at y1 y2
  obtain ⟨A0, c0, rfl, _, _⟩ := hW1.slice
  have HR := Lib.hid hr
  have HO := Lib.hid ho
  have HK := Lib.hid (show BitsAt w2 g h S (putB S p c) ∧ Blk w2 bt 103 #[.pointer (some ⟨g, 0, none⟩)] from ⟨⟨hk _ _ _ (by decide) hB.box, hk _ _ _ (by decide) hB.row, hB.ne⟩, hk _ _ _ (by decide) (hM.blk hth HA.out.there)⟩)
  have HBl := Lib.hid (show ∀ B a, Below B a w → B ≤ base → Below B a w2 from fun B a hb hle => hbl B a (hM.below hb (Nat.le_trans hle HA.out.bh)) hle)
  have HV2 := Lib.hid hv2
  clear hB hM HP x0 hr ho hk hbl hv1 hW1 hv2 hsz hbase
  dsimp only
  go_wp2_with (at_builtin; refine wpList_append_by rfl _ _ 41 41 rfl _ _ _ _ rfl rfl HR.out ?_)
  go_end0
  have hne := blk_not_row HV2.out (by decide) HO.out
  refine ⟨rfl, ⟨⟨HK.out.1.box.far (p := ⟨bw, 0, none⟩) (fun e => hwg e.symm) _, HK.out.1.row.far (p := ⟨bw, 0, none⟩) (fun e => hwh e.symm) _, HK.out.1.ne⟩, HK.out.2.far (p := ⟨bw, 0, none⟩) (fun e => hwt e.symm) _, ⟨_, HV2.out.set_ 0 _, .inl ?_⟩, HA.out.bg, HA.out.bh, HA.out.bbt, HA.out.bbw⟩, fun B a hb hle => (HBl.out B a hb hle).setCell (p := ⟨bw, 0, none⟩) (Nat.le_trans hle HA.out.bbw) _⟩
  rw [HE.out]
  simpa using own_set HO.out hne
end Go.Proofs.YtfekpkelmliejaaGreatDoor
namespace Go.Proofs.YtfekpkelmliejaaGreatDoor
open Go.RowKit Go.Maps
set_option linter.unusedSimpArgs false
set_option linter.unusedVariables false
set_option maxRecDepth 100000
set_option maxHeartbeats 8000000
def bitOf (w : World) (h c : Nat) : Bool := match w.cell? ⟨h, c / 64, none⟩ with
 | some (.int _ v) => v.toNat.testBit (c % 64)
 | _ => false
def lenAt (w : World) (bw : Nat) : Nat := match w.cell? ⟨bw, 0, none⟩ with
 | some v => lenV v
 | _ => 0
def leftW (w : World) (h bw S : Nat) : Nat := leftB (bitOf w h) S (lenAt w bw)
theorem PutAt.left {w : World} {base g h bt bw S : Nat} {p : Nat → Bool} {ws : List Int} (hA : PutAt w base g h bt bw S p ws) : leftW w h bw S = leftB p S ws.length := by
 have e1 : lenAt w bw = ws.length := by
  obtain ⟨v, hv, hW⟩ := hA.waits
  obtain ⟨A, c, rfl, _, _⟩ := hW.slice
  unfold lenAt
  have := hv.cell 0
  simp only [List.getElem?_toArray, List.getElem?_cons_zero] at this
  rw [this]
  rfl
 have e2 : cntB (bitOf w h) S = cntB p S := cntB_ext fun c hc => by
  unfold bitOf
  have := hA.set.row.cell (c / 64)
  rw [wordsU_get p (show c / 64 < (S + 63) / 64 by omega)] at this
  rw [this]
  show (((word p (c / 64) : Nat) : Int).toNat).testBit (c % 64) = p c
  rw [Int.toNat_natCast, testBit_word]
  have h1 : c % 64 < 64 := Nat.mod_lt _ (by decide)
  have h2 : 64 * (c / 64) + c % 64 = c := Nat.div_add_mod c 64
  rw [h2]
  simp [h1]
 unfold leftW leftB
 rw [e1, e2]
theorem waitB_len {S : Nat} {p : Nat → Bool} {ws : List Int} {c : Int} (h : ws.length ≤ cntB p S) : (waitB S p ws c).length ≤ cntB (putB S p c) S := by
 unfold putB waitB
 cases hn : newB S p c with
 | true =>
  obtain ⟨h1, h2⟩ := newB_iff.1 hn
  have h3 := cntB_with (S := S) h2 (by omega)
  rw [if_pos rfl, if_pos rfl, h3]
  simp only [List.length_append, List.length_singleton]
  omega
 | false =>
  rw [if_neg (by decide), if_neg (by decide)]
  exact h
theorem slice_cut (b : Nat) {n L cap : Nat} (hn : n ≤ cap) (W : World) : (Instr.slice 41 (.slice (some ⟨b, 0, none⟩) L cap) none (some (.int .i64 (n : Int))) (some (.int .i64 (n : Int)))).run Tryz.prog W = .ok (.slice (some ⟨b, 0, none⟩) n n) W := by
 have ht : Tryz.prog.underlying 41 = some (.slice (Tryz.prog.elem 41)) := by kernel_rfl
 have he : Tryz.prog.elem 41 = 3 := by kernel_rfl
 rw [run_slice_hm W 41 _ _ _ ht .i64 .i64 _ _ (by omega) (by omega) (by omega), he, int_sizeC]
 by_cases h0 : n = 0
 ·simp [Result.andThen, sliced, h0]
 ·simp [Result.andThen, sliced, h0, addr_plusC]
theorem WaitV.cut {w : World} {base : Nat} {v : Value} {ws : List Int} {s : Int} (h : WaitV w base v (ws ++ [s])) :
  ∃ b cap, v = .slice (some ⟨b, 0, none⟩) (ws.length + 1) cap ∧ ws.length + 1 ≤ cap ∧ w.cell? ⟨b, ws.length, none⟩ = some (.int .i64 s) ∧ WaitV w base (.slice (some ⟨b, 0, none⟩) ws.length ws.length) ws := by
 have key : ∃ b cap cur, v = .slice (some ⟨b, 0, none⟩) (ws.length + 1) cap ∧ ws.length + 1 ≤ cap ∧ base ≤ b ∧ Blk w b 3 cur ∧ IntsAt w (some ⟨b, 0, none⟩) (ws ++ [s]) := by
  rcases h with h | ⟨b, cur, rfl, hi, hb, hk⟩
  ·have hi := h
   rcases h.2 with ⟨_, h0⟩ | ⟨g, cap, cur, rfl, hg, hh, hc, _⟩
   ·simp at h0
   ·refine ⟨g, cap, cur, by simp, by simpa using hc, hg, hh, own_intsC hi⟩
  ·exact ⟨b, ws.length + 1, cur, by simp, Nat.le_refl _, hb, hk, hi⟩
 obtain ⟨b, cap, cur, rfl, hc, hb, hk, hi⟩ := key
 refine ⟨b, cap, rfl, hc, ?_, .inr ⟨b, cur, rfl, fun i a ha => hi i a ?_, hb, hk⟩⟩
 ·obtain ⟨b', o', e, h0⟩ := hi ws.length s (by simp)
  cases e
  simpa using h0
 ·rw [List.getElem?_append_left (List.getElem?_eq_some_iff.1 ha).1]
  exact ha
structure PutInv (w0 : World) (N : NfaV) (l : List Int) (g h bt bw S : Nat) (p : Nat → Bool) (ws : List Int) (x : Int) (k : Nat) (wr : World) : Prop where
 put : PutAt wr w0.heap.size g h bt bw S p ws
 way : WayC N l p ws
 shut : Shut N p ws x k
 len : ws.length ≤ cntB p S
 below : Below w0.heap.size w0 wr
theorem PutInv.step {w0 wr w' : World} {N : NfaV} {l : List Int} {g h bt bw S : Nat} {p : Nat → Bool} {ws : List Int} {x : Int} {k : Nat} (hI : PutInv w0 N l g h bt bw S p ws x k wr) (hS : N.states = (S : Int)) {c : Int} (hc : 0 ≤ c → c < N.states → Leads N.links (fun s => s ∈ l ∧ 0 ≤ s ∧ s < N.states) c)
  (hP : PutAt w' w0.heap.size g h bt bw S (putB S p c) (waitB S p ws c)) (hB : ∀ B a, Below B a wr → B ≤ w0.heap.size → Below B a w') : PutInv w0 N l g h bt bw S (putB S p c) (waitB S p ws c) x k w' :=
 ⟨hP, hI.way.put hS hc, hI.shut.put S c, waitB_len hI.len, hB _ _ hI.below (Nat.le_refl _)⟩
theorem mclos_go {N : NfaV} (hR : rightN N = true) : ClosC N := by
 intro g lm em A3 k3 w hA A cap l hl hlen hcap
 obtain ⟨S, hSe⟩ : ∃ S : Nat, N.states = (S : Int) := ⟨N.states.toNat, by have := rightN_states hR; omega⟩
 have hS0 := rightN_states hR
 have hS : S ≤ 1048576 := by omega
 have x0 := hA.box.cell 0
 have hlx := hA.box.lt
 simp only [List.getElem?_toArray, List.getElem?_cons_zero] at x0
 rw [hSe] at x0
 have HNew := Lib.hid (bnew_go S w hS)
 have HA := Lib.hid hA
 have HL := Lib.hid hl
 have HRt := Lib.hid hR
 have HSe := Lib.hid hSe
 clear hA hl hR hSe hS0
 go_enter Tryz.func29, Tryz.ntmps29
 go_wp2_with fail
 refine HNew.out.mono ?_
 rintro e w1 ⟨gs, hs, rfl, hB, hb1, hgs, hhs⟩
 have hs1 := hb1.size
 have hbA : Below w.heap.size w (w1.alloc (.cells #[.pointer (some ⟨gs, 0, none⟩)] 103)) := hb1.alloc hs1 _
 have hbB : Below w.heap.size w ((w1.alloc (.cells #[.pointer (some ⟨gs, 0, none⟩)] 103)).alloc (.cells #[.slice none 0 0] 41)) := hbA.alloc (by simp; omega) _
 have HI0 := Lib.hid (show PutInv w N l gs hs w1.heap.size (w1.heap.size + 1) S (fun _ => false) [] (-1) 0 ((w1.alloc (.cells #[.pointer (some ⟨gs, 0, none⟩)] 103)).alloc (.cells #[.slice none 0 0] 41)) from
  ⟨⟨⟨(hB.box.alloc _).alloc _, (hB.row.alloc _).alloc _, hB.ne⟩, (Blk.new _ _ _).alloc _, ⟨_, Blk.new_at (by simp), .inl (World.ownsRow_nil _ _ _ _)⟩, hgs, hhs, hs1, by omega⟩, ⟨fun c h => (by cases h), fun c h => (by cases h), fun s h => (by simp at h)⟩, fun a b _ _ h => (by cases h), Nat.zero_le _, hbB⟩)
 clear HNew hB hb1 hgs hhs hbA hbB x0 hs1
 dsimp only
 generalize hbt : w1.heap.size = bt at *
 go_wp2_with fail
 generalize (w1.alloc (.cells #[.pointer (some ⟨gs, 0, none⟩)] 103)).alloc (.cells #[.slice none 0 0] 41) = w2 at *
 clear hbt w1
 go_loopw [28] (fun i wr => ∃ (k : Nat) (p : Nat → Bool) (ws : List Int), i = .int .i64 (k : Int) ∧ k ≤ l.length ∧ Hid (PutInv w N l gs hs bt (bt + 1) S p ws (-1) 0 wr) ∧ Hid (∀ (j : Nat) s, j < k → l[j]? = some s → 0 ≤ s → s < N.states → p s.toNat = true)) (fun i _ => l.length - (intOf i).toNat)
 case atStart => exact ⟨0, fun _ => false, [], rfl, Nat.zero_le _, HI0, Lib.hid (fun j s h => by omega)⟩
 case round =>
  clear HI0
  obtain ⟨k, p, ws, rfl, hk, HI, HK⟩ := hrel
  have hwl : ws.length + 1 ≤ 10000000000000 := by have := HI.out.len; have := cntB_le p S; omega
  by_cases hlt : k < l.length
  ·obtain ⟨s, hs'⟩ : ∃ s, l[k]? = some s := ⟨_, List.getElem?_eq_getElem hlt⟩
   obtain ⟨b0, o0, rfl, hc⟩ := (HL.out.below HI.out.below) k s hs'
   have hdl : (k : Int) < (l.length : Int) := by omega
   have hdc : (k : Int) < (cap : Int) := by omega
   have HS := Lib.hid hs'
   have HP := Lib.hid (cput_go w.heap.size gs hs bt (bt + 1) S p ws s wr HI.out.put hS hwl HI.out.below.size)
   clear hs'
   go_wp2_with fail
   refine HP.out.mono ?_
   rintro e w4 ⟨rfl, hp4, hb4⟩
   have HI4 := Lib.hid (HI.out.step HSe.out (c := s) (fun h0 h1 => .here ⟨List.mem_of_getElem? HS.out, h0, h1⟩) hp4 hb4)
   have HK4 := Lib.hid (show ∀ (j : Nat) s', j < k + 1 → l[j]? = some s' → 0 ≤ s' → s' < N.states → putB S p s s'.toNat = true from fun j s' hj hs' h0 h1 => by
    rcases Nat.lt_or_ge j k with h | h
    ·exact putB_iff.2 (.inl (HK.out j s' h hs' h0 h1))
    ·obtain rfl : j = k := by omega
     rw [HS.out] at hs'
     cases hs'
     have := HSe.out
     exact putB_iff.2 (.inr ⟨by omega, by omega⟩))
   clear HP hp4 hb4 HI HK hc
   dsimp only
   go_wp2
   go_roundw
   case rel => exact ⟨k + 1, _, _, by go_num, by omega, HI4, HK4⟩
   case measure => simp [intOf]; omega
  ·have hdl : ¬ (k : Int) < (l.length : Int) := by omega
   obtain rfl : k = l.length := by omega
   have HIn := Lib.hid (show ∀ s ∈ l, 0 ≤ s → s < N.states → p s.toNat = true from fun s hs' h0 h1 => by
    obtain ⟨j, hj, rfl⟩ := List.mem_iff_getElem.1 hs'
    exact HK.out j _ hj (List.getElem?_eq_getElem hj) h0 h1)
   clear HK
   go_wp2
   go_loopw [11] (fun i wr => ∃ (p : Nat → Bool) (ws : List Int), Hid (PutInv w N l gs hs bt (bt + 1) S p ws (-1) 0 wr) ∧ Hid (∀ s ∈ l, 0 ≤ s → s < N.states → p s.toNat = true)) (fun _ wr => leftW wr hs (bt + 1) S)
   case atStart => exact ⟨p, ws, HI, HIn⟩
   case round =>
    clear HI HIn hwl
    obtain ⟨p, ws, HI, HIn⟩ := hrel
    have hws := HI.out.len
    have hpS := cntB_le p S
    rcases List.eq_nil_or_concat ws with hw0 | ⟨ws0, s, hw0⟩
    ·subst hw0
     obtain ⟨v, hv, hW⟩ := HI.out.put.waits
     obtain ⟨A7, c7, rfl, _, _⟩ := hW.slice
     have y0 := hv.cell 0
     have hly := hv.lt
     simp only [List.getElem?_toArray, List.getElem?_cons_zero, List.length_nil] at y0
     have z0 := HI.out.put.there.cell 0
     have hlz := HI.out.put.there.lt
     simp only [List.getElem?_toArray, List.getElem?_cons_zero] at z0
     have HAll := Lib.hid (ball_go p S gs hs hS (fun c h => by have := HI.out.way.within c h; have := HSe.out; omega) wr HI.out.put.set (HA.out.below HI.out.below).tab (HA.out.below HI.out.below).tabl)
     clear hv hW
     go_wp2_with fail
     refine HAll.out.mono ?_
     rintro e w5 ⟨R, A6, c6, rfl, rfl, hb5, hi5, hc5⟩
     have HZ := Lib.hid (show _ ∧ _ ∧ _ ∧ _ from ⟨HI.out.way.clos HSe.out (Nat.le_refl _) HIn.out HI.out.shut HRt.out, HI.out.below.trans (hb5.mono HI.out.below.size), hi5, hc5⟩)
     clear HAll hb5 hi5 hc5 y0 z0 HI HIn
     dsimp only
     go_wp2
     go_light
     go_ret
     exact ⟨_, A6, c6, HZ.out.1, rfl, HZ.out.2.1, HZ.out.2.2.1, HZ.out.2.2.2⟩
    ·rw [List.concat_eq_append] at hw0
     subst hw0
     have hws' : ws0.length + 1 ≤ cntB p S := by simpa using hws
     obtain ⟨v, hv, hW⟩ := HI.out.put.waits
     obtain ⟨b1, c1, rfl, hc1, hcell, hcut⟩ := hW.cut
     have y0 := hv.cell 0
     have f0 := hv.frozen 0
     have hly := hv.lt
     simp only [List.getElem?_toArray, List.getElem?_cons_zero] at y0
     have hsc := slice_cut b1 (n := ws0.length) (L := ws0.length + 1) (cap := c1) (by omega)
     have hbw := HI.out.put.bbw
     have HIs := Lib.hid (show PutInv w N l gs hs bt (bt + 1) S p ws0 s 0 (wr.setCell ⟨bt + 1, 0, none⟩ (.slice (some ⟨b1, 0, none⟩) ws0.length ws0.length)) from
      ⟨⟨⟨HI.out.put.set.box.far (p := ⟨bt + 1, 0, none⟩) (fun e => blk_apart hv HI.out.put.set.box (by decide) e.symm) _, HI.out.put.set.row.far (p := ⟨bt + 1, 0, none⟩) (fun e => blk_apart hv HI.out.put.set.row (by decide) e.symm) _, HI.out.put.set.ne⟩, HI.out.put.there.far (p := ⟨bt + 1, 0, none⟩) (fun e => blk_apart hv HI.out.put.there (by decide) e.symm) _, ⟨_, hv.set_ 0 _, hcut.moved fun b cs hb => hb.far (p := ⟨bt + 1, 0, none⟩) (blk_apart hb hv (by decide)) _⟩, HI.out.put.bg, HI.out.put.bh, HI.out.put.bbt, hbw⟩, HI.out.way.take, HI.out.shut.take rfl, by omega, HI.out.below.setCell (p := ⟨bt + 1, 0, none⟩) hbw _⟩)
     have hps := HI.out.way.seen s (by simp)
     have HPs := Lib.hid hps
     obtain ⟨A5, c5, hlk0, hLi, hLc⟩ := HA.out.links s
     have hlk := hlk0 _ HIs.out.below
     have x2 := (HA.out.below HIs.out.below).box.cell 2
     have x2r := (HA.out.below HI.out.below).box.cell 2
     have hlg := (HA.out.below HI.out.below).box.lt
     simp only [List.getElem?_toArray, List.getElem?_cons_zero, List.getElem?_cons_succ] at x2 x2r
     have hgb : g ≠ bt + 1 := by omega
     have hleft := HI.out.put.left
     rw [List.length_append, List.length_singleton] at hleft
     have HLf := Lib.hid (show leftB p S ws0.length < leftW wr hs (bt + 1) S by rw [hleft]; unfold leftB; omega)
     have HLi := Lib.hid hLi
     have hll : (linksOf N s).length ≤ 1048576 := by unfold linksOf; rw [List.length_map]; exact Nat.le_trans (List.length_filter_le _ _) HA.out.ll
     have hposn : (0 : Int) < (ws0.length : Int) + 1 := by omega
     have hcc : (ws0.length : Int) < (c1 : Int) := by omega
     clear hv hW hcut hbw hws hps hlk0 hLi hleft HI
     go_wp2_with fail
     clear hlk x2 x2r y0 f0 hcell hsc hlg
     generalize hLm : leftW wr hs (bt + 1) S = Lm at *
     generalize wr.setCell ⟨bt + 1, 0, none⟩ (.slice (some ⟨b1, 0, none⟩) ws0.length ws0.length) = wS at *
     generalize hp0 : leftB p S ws0.length = L0 at *
     have hL0 : leftB p S ws0.length ≤ L0 := by omega
     have HLm := Lib.hid hLm
     clear hp0 hLm hly
     go_loopw [57] (fun i wq => ∃ (j : Nat) (p : Nat → Bool) (ws : List Int), i = .int .i64 (j : Int) ∧ j ≤ (linksOf N s).length ∧ Hid (PutInv w N l gs hs bt (bt + 1) S p ws s j wq) ∧ Hid (∀ s ∈ l, 0 ≤ s → s < N.states → p s.toNat = true) ∧ Hid (0 ≤ s ∧ p s.toNat = true) ∧ Hid (leftB p S ws.length ≤ L0)) (fun i _ => (linksOf N s).length - (intOf i).toNat)
     case atStart => exact ⟨0, p, ws0, rfl, Nat.zero_le _, HIs, HIn, HPs, Lib.hid hL0⟩
     case round =>
      clear HIs HIn HPs hL0 hpS hws'
      obtain ⟨j, p, ws, rfl, hj, HI, HIn, HPs, HL0⟩ := hrel
      have hwl : ws.length + 1 ≤ 10000000000000 := by have := HI.out.len; have := cntB_le p S; omega
      by_cases hjl : j < (linksOf N s).length
      ·obtain ⟨t, ht⟩ : ∃ t, (linksOf N s)[j]? = some t := ⟨_, List.getElem?_eq_getElem hjl⟩
       obtain ⟨b3, o3, rfl, hc3⟩ := (HLi.out.below HI.out.below) j t ht
       have hdl : (j : Int) < ((linksOf N s).length : Int) := by omega
       have hdc : (j : Int) < (c5 : Int) := by omega
       have HT := Lib.hid ht
       have HM := Lib.hid (linksOf_mem.1 (List.mem_of_getElem? ht))
       have HP := Lib.hid (cput_go w.heap.size gs hs bt (bt + 1) S p ws t _ HI.out.put hS hwl HI.out.below.size)
       clear ht
       go_wp2_with fail
       refine HP.out.mono ?_
       rintro e w4 ⟨rfl, hp4, hb4⟩
       have hrl := rightN_links HRt.out HM.out
       have hI4 := HI.out.step HSe.out (c := t) (fun h0 h1 => .link (by have h5 := HI.out.way.sound s.toNat HPs.out.2; rw [show ((s.toNat : Nat) : Int) = s by have := HPs.out.1; omega] at h5; exact h5) HM.out) hp4 hb4
       have HI4 := Lib.hid (show PutInv w N l gs hs bt (bt + 1) S (putB S p t) (waitB S p ws t) s (j + 1) w4 from ⟨hI4.put, hI4.way, hI4.shut.more HT.out (putB_iff.2 (.inr ⟨by have := HSe.out; omega, by omega⟩)), hI4.len, hI4.below⟩)
       have HIn4 := Lib.hid (show ∀ s ∈ l, 0 ≤ s → s < N.states → putB S p t s.toNat = true from fun s' h1 h2 h3 => putB_iff.2 (.inl (HIn.out s' h1 h2 h3)))
       have HPs4 := Lib.hid (show 0 ≤ s ∧ putB S p t s.toNat = true from ⟨HPs.out.1, putB_iff.2 (.inl HPs.out.2)⟩)
       have HL4 := Lib.hid (Nat.le_trans (leftB_put (S := S) (p := p) (ws := ws) (c := t)) HL0.out)
       clear HP hp4 hb4 HI HIn HPs HL0 hc3 hI4 hrl
       dsimp only
       go_wp2
       go_roundw
       case rel => exact ⟨j + 1, _, _, by go_num, by omega, HI4, HIn4, HPs4, HL4⟩
       case measure => simp [intOf]; omega
      ·have hdl : ¬ (j : Int) < ((linksOf N s).length : Int) := by omega
       obtain rfl : j = (linksOf N s).length := by omega
       have HI4 := Lib.hid (show PutInv w N l gs hs bt (bt + 1) S p ws (-1) 0 _ from ⟨HI.out.put, HI.out.way, HI.out.shut.all (Nat.le_refl _) (-1), HI.out.len, HI.out.below⟩)
       have HLx := Lib.hid (show leftW _ hs (bt + 1) S < Lm from by rw [HI.out.put.left]; have := HL0.out; have := HLf.out; omega)
       go_wp2
       go_roundw
       case rel => exact ⟨p, ws, HI4, HIn⟩
       case measure =>
        rw [HLm.out]
        exact HLx.out
def StepC (N : NfaV) : Prop := ∀ (g lm em : Nat) (A3 : Option Addr) (k3 : Nat) (w : World), WorkAt w g lm em N A3 k3 → ∀ (A : Option Addr) (cap : Nat) (l : List Int) (b : Nat), IntsAt w A l → l.length ≤ 2097152 → l.length ≤ cap → b < 256 →
 Calls Tryz.prog 31 #[.pointer (some ⟨g, 0, none⟩), .slice A l.length cap, .int .u8 (b : Int)] w (ListV (IsStep N l b) w)
theorem mrun_go (g lm em : Nat) (N : NfaV) (hC : ClosC N) (hS : StepC N) (hR : rightN N = true) (A3 : Option Addr) (k3 : Nat) (w : World) (hA : WorkAt w g lm em N A3 k3) (A : Option Addr) (cap : Nat) (bs : List Nat) (hb : BytesAt w w.heap.size A bs) (hcap : bs.length ≤ cap) :
  Calls Tryz.prog 37 #[.pointer (some ⟨g, 0, none⟩), .slice A bs.length cap] w (ListV (RunOf N bs) w) := by
 have HC := Lib.hid (mstart_go g lm em N hC A3 k3 w hA)
 have HA := Lib.hid hA
 have HY := Lib.hid hb
 have HSt := Lib.hid hS
 have HRt := Lib.hid hR
 have h140 := hb.2.1
 clear hA hb hC hS hR
 go_enter Tryz.func37, Tryz.ntmps37
 go_wp2_with fail
 refine HC.out.mono ?_
 rintro e w2 ⟨R0, A0, c0, hr, rfl, hb2, hi, hc⟩
 have HR0 := Lib.hid (RunOf.nil hr)
 have HB0 := Lib.hid hb2
 have HI0 := Lib.hid hi
 clear hr hb2 hi HC
 dsimp only
 go_wp2
 go_loopw [5, 12] (fun u i wr => ∃ (k : Nat) (L : List Int) (A' : Option Addr) (c : Nat), i = .int .i64 (k : Int) ∧ u = .slice A' L.length c ∧ L.length ≤ c ∧ k ≤ bs.length ∧ Hid (RunOf N (bs.take k) L) ∧ Hid (IntsAt wr A' L) ∧ Hid (Below w.heap.size w wr)) (fun _ i _ => bs.length - (intOf i).toNat)
 case atStart => exact ⟨0, R0, A0, c0, rfl, rfl, hc, Nat.zero_le _, HR0, HI0, HB0⟩
 case round =>
  clear HR0 HI0 HB0
  obtain ⟨k, L, A', c', rfl, rfl, hLc, hk, HL, HI, HW⟩ := hrel
  have hL64 := runof_len HRt.out HL.out
  by_cases hlt : k < bs.length
  ·obtain ⟨c, hcx⟩ : ∃ c, bs[k]? = some c := ⟨_, List.getElem?_eq_getElem hlt⟩
   have hY2 := HY.out.below HW.out
   obtain ⟨b, o, rfl, hbl, hcell⟩ := hY2.2.2 (by omega)
   have hck := hcell k hlt
   have hbk : byteAt bs k = c := by unfold byteAt; rw [List.getD_eq_getElem?_getD, hcx]; rfl
   rw [hbk] at hck
   have hc256 := HY.out.1 c (List.mem_of_getElem? hcx)
   have hdl : (k : Int) < (bs.length : Int) := by omega
   have hdc : (k : Int) < (cap : Int) := by omega
   have HTk := Lib.hid (show bs.take (k + 1) = bs.take k ++ [c] by rw [List.take_add_one, hcx]; rfl)
   have HS1 := Lib.hid (HSt.out g lm em A3 k3 wr (HA.out.below HW.out) A' c' L c HI.out (by omega) hLc hc256)
   clear hY2 hcell hbk hcx
   go_wp2_with fail
   refine HS1.out.mono ?_
   rintro e w4 ⟨R, A4, c4, hst, rfl, hb4, hi4, hc4⟩
   have HL4 := Lib.hid (RunOf.snoc HL.out hst)
   have HI4 := Lib.hid hi4
   have HW4 := Lib.hid (HW.out.trans (hb4.mono HW.out.size))
   clear hst hi4 hb4 HL HI HW HS1 hck
   dsimp only
   go_wp2
   go_light
   go_roundw
   case rel => exact ⟨k + 1, R, A4, c4, by go_num, rfl, hc4, by omega, by rw [HTk.out]; exact HL4, HI4, HW4⟩
   case measure => simp [intOf]; omega
  ·have hdl : ¬ (k : Int) < (bs.length : Int) := by omega
   obtain rfl : k = bs.length := by omega
   rw [List.take_length] at HL
   go_wp2
   go_light
   go_ret
   exact ⟨L, A', c', HL.out, rfl, HW.out, HI.out, hLc⟩
theorem mtell_go (g lm em : Nat) (N : NfaV) (hC : ClosC N) (hS : StepC N) (hR : rightN N = true) (A3 : Option Addr) (k3 : Nat) (w : World) (hA : WorkAt w g lm em N A3 k3) (A : Option Addr) (cap : Nat) (bs : List Nat) (hb : BytesAt w w.heap.size A bs) (hcap : bs.length ≤ cap) :
  Calls Tryz.prog 39 #[.pointer (some ⟨g, 0, none⟩), .slice A bs.length cap] w fun e w' => ∃ x, TellOf N bs x ∧ e = .returned (.int .i64 x) ∧ Below w.heap.size w w' := by
 have HC := Lib.hid (mrun_go g lm em N hC hS hR A3 k3 w hA A cap bs hb hcap)
 have HA := Lib.hid hA
 have HRt := Lib.hid hR
 clear hA hb hC hS hR
 go_enter Tryz.func39, Tryz.ntmps39
 go_wp2_with fail
 refine HC.out.mono ?_
 rintro e w2 ⟨L, A2, c2, hr, rfl, hb2, hi, hc⟩
 have hL64 := runof_len HRt.out hr
 have HM := Lib.hid (mlabels_go g lm em N A3 k3 w2 (HA.out.below hb2) HRt.out A2 c2 L hi (by omega) hc)
 have HB2 := Lib.hid hb2
 have HRu := Lib.hid hr
 clear hr hb2 hi HC
 dsimp only
 go_wp2_with fail
 refine HM.out.mono ?_
 rintro e w5 ⟨R, A5, c5, hlab, rfl, hb5, hi5, hc5⟩
 have hR65 := labels_len HRt.out hlab
 have HT := Lib.hid (show TellOf N bs (R.headD 0) from ⟨L, R, HRu.out, hlab, rfl⟩)
 have HZ := Lib.hid (HB2.out.trans (hb5.mono HB2.out.size))
 have HI5 := Lib.hid hi5
 clear hlab hi5 hb5 HM
 dsimp only
 cases R with
 | nil =>
  go_wp2
  go_light
  go_ret
  exact ⟨0, HT.out, rfl, HZ.out⟩
 | cons x R =>
  obtain ⟨b, o, rfl, hc0⟩ := HI5.out 0 x rfl
  have hne : (((x :: R).length : Int) == 0) = false := by rw [beq_eq_false_iff_ne]; simp only [List.length_cons]; omega
  rw [Nat.add_zero] at hc0
  have hpos : (0 : Int) < ((x :: R).length : Int) := by simp only [List.length_cons]; omega
  generalize (x :: R).length = n5 at *
  have hnk : (0 : Int) < (c5 : Int) := by omega
  go_wp2
  go_light
  go_ret
  exact ⟨x, HT.out, rfl, HZ.out⟩
end Go.Proofs.YtfekpkelmliejaaGreatDoor
