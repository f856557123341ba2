/- Texts of the claim. -/
import Derived.Test.YtfcblmbieiibmaaDoorJMatEl
import Derived.Test.YtfcblmbieiibmaaDoorJMatJ
namespace Go.Proofs.YtfcblmbieiibmaaDoor
open Go.RowKit
set_option linter.unusedSimpArgs false
set_option linter.unusedVariables false
set_option maxRecDepth 100000
set_option maxHeartbeats 8000000
theorem byte_sizeM (w : World) : (sizeOf 5).run Tryd.prog w = .ok 1 w := by kernel_rfl
theorem byteAt_takeM {bs : List Nat} {p i : Nat} (h : i < p) : byteAt (bs.take p) i = byteAt bs i := by
 unfold byteAt
 simp [List.getElem?_take, h]
theorem byteAt_dropM (bs : List Nat) (p i : Nat) : byteAt (bs.drop p) i = byteAt bs (p + i) := by
 unfold byteAt
 simp [List.getElem?_drop]
theorem bytes_cut (A : Option Addr) (bs : List Nat) (cap k : Nat) (hc : bs.length ≤ cap) (hk : k ≤ bs.length) :
  ∃ A1 A2, (∀ W, (Instr.slice 29 (.slice A bs.length cap) none (some (.int .i64 (k : Int))) none).run Tryd.prog W = .ok (.slice A1 (bs.take k).length cap) W) ∧
   (∀ W, (Instr.slice 29 (.slice A bs.length cap) (some (.int .i64 (k : Int))) none none).run Tryd.prog W = .ok (.slice A2 (bs.drop k).length (cap - k)) W) ∧
   ∀ W B, BytesAt W B A bs → BytesAt W B A1 (bs.take k) ∧ BytesAt W B A2 (bs.drop k) := by
 have ht : Tryd.prog.underlying 29 = some (.slice (Tryd.prog.elem 29)) := by kernel_rfl
 have he : Tryd.prog.elem 29 = 5 := by kernel_rfl
 have l1 : (bs.take k).length = k := by rw [List.length_take]; omega
 have l2 : (bs.drop k).length = bs.length - k := List.length_drop
 refine ⟨if cap = 0 then A else A.map (·.add (0 * 1)), if cap = k then A else A.map (·.add (k * 1)), fun W => ?_, fun W => ?_, fun W B h => ⟨⟨fun x hx => h.1 x (List.mem_of_mem_take hx), by rw [l1]; have := h.2.1; omega, fun hn => ?_⟩, ⟨fun x hx => h.1 x (List.mem_of_mem_drop hx), by rw [l2]; have := h.2.1; omega, fun hn => ?_⟩⟩⟩
 ·rw [run_slice_h W 29 _ _ _ ht .i64 _ (by omega) (by omega), he, byte_sizeM, l1]
  simp only [Result.andThen, sliced, Int.toNat_natCast, Nat.sub_zero]
 ·rw [run_slice_l W 29 _ _ _ ht .i64 _ (by omega) (by omega), he, byte_sizeM, l2]
  simp only [Result.andThen, sliced, Int.toNat_natCast]
 ·rw [l1] at hn
  obtain ⟨b, o, rfl, hb, hcell⟩ := h.2.2 (by omega)
  refine ⟨b, o, ?_, hb, fun i hi => ?_⟩
  ·rw [if_neg (by omega)]
   simp [Addr.add]
  ·rw [l1] at hi
   rw [byteAt_takeM hi]
   exact hcell i (by omega)
 ·rw [l2] at hn
  obtain ⟨b, o, rfl, hb, hcell⟩ := h.2.2 (by omega)
  refine ⟨b, o + k, ?_, hb, fun i hi => ?_⟩
  ·rw [if_neg (by omega)]
   simp [Addr.add]
  ·rw [l2] at hi
   rw [byteAt_dropM, Nat.add_assoc]
   exact hcell (k + i) (by omega)
theorem full_says {x : Nd} {bs : List Nat} (hr : rightT x = true) (hl : bs.length ≤ 256) : fullB x bs = true ↔ SaysW x bs := by
 have h0 : errF x bs 0 = 0 := by unfold errF; rw [if_neg (by rw [hr]; decide), if_neg (by omega), if_neg (by omega)]
 unfold fullB
 rw [findB_yes h0, endsB_iff]
 exact Iff.rfl
noncomputable def cutB (x y : Nd) (bs : List Nat) (lo i : Nat) : Bool := (List.range i).any fun m => decide (lo ≤ m) && (fullB x (bs.take m) && fullB y (bs.drop m))
theorem cutB_zero (x y : Nd) (bs : List Nat) (lo : Nat) : cutB x y bs lo lo = false := by
 unfold cutB
 rw [List.any_eq_false]
 intro m hm
 have := List.mem_range.1 hm
 simp
 omega
theorem cutB_next (x y : Nd) (bs : List Nat) {lo i : Nat} (h : lo ≤ i) : cutB x y bs lo (i + 1) = (cutB x y bs lo i || (fullB x (bs.take i) && fullB y (bs.drop i))) := by
 unfold cutB
 rw [List.range_succ, List.any_append]
 simp [h]
theorem cutB_iff (x y : Nd) (bs : List Nat) (lo i : Nat) : cutB x y bs lo i = true ↔ ∃ m, lo ≤ m ∧ m < i ∧ fullB x (bs.take m) = true ∧ fullB y (bs.drop m) = true := by
 unfold cutB
 rw [List.any_eq_true]
 constructor
 ·rintro ⟨m, h1, h2⟩
  rw [Bool.and_eq_true, Bool.and_eq_true, decide_eq_true_eq] at h2
  exact ⟨m, h2.1, List.mem_range.1 h1, h2.2.1, h2.2.2⟩
 ·rintro ⟨m, h1, h2, h3, h4⟩
  exact ⟨m, List.mem_range.2 h2, by rw [Bool.and_eq_true, Bool.and_eq_true, decide_eq_true_eq]; exact ⟨h1, h3, h4⟩⟩
theorem bool_iff {a b : Bool} (h : a = true ↔ b = true) : a = b := by
 cases a <;> cases b <;> simp_all
theorem cat_law {a b : Nd} {bs : List Nat} (ha : rightT a = true) (hb : rightT b = true) (hx : rightT (catM a b) = true) (hl : bs.length ≤ 256) : fullB (catM a b) bs = cutB a b bs 0 (bs.length + 1) := bool_iff (by
 rw [full_says hx hl, says_cat, cutB_iff]
 constructor
 ·rintro ⟨m, h1, h2, h3⟩
  exact ⟨m, Nat.zero_le _, by omega, (full_says ha (by rw [List.length_take]; omega)).2 h2, (full_says hb (by rw [List.length_drop]; omega)).2 h3⟩
 ·rintro ⟨m, _, h1, h2, h3⟩
  exact ⟨m, by omega, (full_says ha (by rw [List.length_take]; omega)).1 h2, (full_says hb (by rw [List.length_drop]; omega)).1 h3⟩)
theorem alt_law {a b : Nd} {bs : List Nat} (ha : rightT a = true) (hb : rightT b = true) (hx : rightT (altM a b) = true) (hl : bs.length ≤ 256) : fullB (altM a b) bs = (fullB a bs || fullB b bs) := bool_iff (by
 rw [full_says hx hl, says_alt, Bool.or_eq_true, full_says ha hl, full_says hb hl])
theorem star_law {x : Nd} {bs : List Nat} (hr : rightT x = true) (hx : rightT (starM x) = true) (hl : bs.length ≤ 256) : fullB (starM x) bs = (decide (bs.length = 0) || cutB x (starM x) bs 1 (bs.length + 1)) := bool_iff (by
 rw [full_says hx hl, says_star, Bool.or_eq_true, decide_eq_true_eq, cutB_iff]
 constructor
 ·rintro (h | ⟨m, h0, h1, h2, h3⟩)
  ·exact .inl h
  ·exact .inr ⟨m, h0, by omega, (full_says hr (by rw [List.length_take]; omega)).2 h2, (full_says hx (by rw [List.length_drop]; omega)).2 h3⟩
 ·rintro (h | ⟨m, h0, h1, h2, h3⟩)
  ·exact .inl h
  ·exact .inr ⟨m, h0, by omega, (full_says hr (by rw [List.length_take]; omega)).1 h2, (full_says hx (by rw [List.length_drop]; omega)).1 h3⟩)
theorem rep_law {x : Nd} {bs : List Nat} {k : Nat} (hr : rightT x = true) (h1 : rightT (repM x ((k + 1 : Nat) : Int) ((k + 1 : Nat) : Int)) = true) (h2 : rightT (repM x (k : Int) (k : Int)) = true) (hl : bs.length ≤ 256) :
  fullB (repM x ((k + 1 : Nat) : Int) ((k + 1 : Nat) : Int)) bs = cutB x (repM x (k : Int) (k : Int)) bs 0 (bs.length + 1) := bool_iff (by
 rw [full_says h1 hl, says_rep_more, cutB_iff]
 constructor
 ·rintro ⟨m, g1, g2, g3⟩
  exact ⟨m, Nat.zero_le _, by omega, (full_says hr (by rw [List.length_take]; omega)).2 g2, (full_says h2 (by rw [List.length_drop]; omega)).2 g3⟩
 ·rintro ⟨m, _, g1, g2, g3⟩
  exact ⟨m, by omega, (full_says hr (by rw [List.length_take]; omega)).1 g2, (full_says h2 (by rw [List.length_drop]; omega)).1 g3⟩)
theorem none_law {x : Nd} {bs : List Nat} (h : rightT (repM x 0 0) = true) (hl : bs.length ≤ 256) : fullB (repM x 0 0) bs = decide (bs.length = 0) := bool_iff (by
 rw [full_says h hl, says_rep_none, decide_eq_true_eq])
theorem plus_law {x : Nd} {bs : List Nat} (hr : rightT x = true) (h1 : rightT (starM x) = true) (h2 : rightT (plusM x) = true) (hl : bs.length ≤ 256) : fullB (plusM x) bs = (fullB (starM x) bs && (decide (0 < bs.length) || fullB x bs)) := bool_iff (by
 rw [full_says h2 hl, says_plus, Bool.and_eq_true, Bool.or_eq_true, full_says h1 hl, decide_eq_true_eq, full_says hr hl])
theorem opt_law {x : Nd} {bs : List Nat} (hr : rightT x = true) (h2 : rightT (optM x) = true) (hl : bs.length ≤ 256) : fullB (optM x) bs = (decide (bs.length = 0) || fullB x bs) := bool_iff (by
 rw [full_says h2 hl, says_opt, Bool.or_eq_true, decide_eq_true_eq, full_says hr hl])
end Go.Proofs.YtfcblmbieiibmaaDoor
