/-
  The reference of chapter 10: edge at any right tree; First, Last, Longest.
-/
import Derived.Test.YtfekpkelmliejaaGreatDoorQFactP
namespace Go.Proofs.YtfekpkelmliejaaGreatDoor
open Go.RowKit
set_option linter.unusedSimpArgs false
set_option linter.unusedVariables false
set_option maxRecDepth 100000

theorem rep_edge {a : SumS} {lo hi : Int} (en : Bool) (o : SumOk a) (hh : hi ≠ 0) : (repeatedF a lo hi).edge en = a.edge en := by
  cases ha : a.hollow with
  | true =>
    have e : a = nothingF := o.none ha
    have e2 : (repeatedF a lo hi).edge en = noB := by
      unfold repeatedF
      split
      · cases en <;> rfl
      · cases en <;> rfl
    rw [e2, e]
    cases en <;> rfl
  | false =>
    unfold repeatedF
    rw [if_neg (by simp [hh, ha]), if_neg (by simp [ha])]
    cases en <;> rfl
theorem one_e {x z : Nd} {lo hi : Int} (en : Bool) (hzl : x.kids.list = [z]) (hs : x.sum = repeatedF z.sum lo hi) (hh : hi ≠ 0) (o : SumOk z.sum) : edgeGo false en noB (kidsV en x.kids.sums) = x.sum.edge en := by
  rw [x.kids.sums_list, hzl, hs, rep_edge en o hh]
  exact edge_one en z.sum
def REdC (en : Bool) (n : Nat) : Prop := ∀ (x : Nd) (B : Option Addr) (cap : Nat) (w : World), x.size ≤ n → x.size ≤ 140737488355328 → (∀ y ∈ x.nodes, aloneN y = true) → TreesAt w (fun b => b < w.heap.size) x.kids B → Calls Tryz.prog 71 #[ndV x B cap, .bool en] w fun e w' => e = .returned (.agg #[.int .u64 ((word (x.sum.edge en) 0 : Nat) : Int), .int .u64 ((word (x.sum.edge en) 1 : Nat) : Int), .int .u64 ((word (x.sum.edge en) 2 : Nat) : Int), .int .u64 ((word (x.sum.edge en) 3 : Nat) : Int)]) ∧ Below w.heap.size w w'
theorem red_step {en : Bool} {n : Nat} (ih : REdC en n) : REdC en (n + 1) := by
  intro x B cap w hsz hlen ho ht
  have hlk : x.kids.len ≤ 140737488355328 := by have := Trees.len_size x.kids; unfold Nd.size at hlen; omega
  have hG : KidE en x := fun i z P C capc w' hz ht' => by
    have := Trees.size_get x.kids i z hz
    have hks : x.kids.size + 1 = x.size := by unfold Nd.size; omega
    exact ih z C capc w' (by omega) (by omega) (fun y hy => ho y (kid_nodes hz y hy)) (ht'.weak (fun b _ h => h))
  obtain ⟨a1, a9, a0, ak1, ak9⟩ := aloneN_kids (ho x (self_nodes x))
  have hok : ∀ s ∈ x.kids.sums, SumOk s := ok_sums x.kids (fun y hy => ho y (by simp [Nd.nodes, hy]))
  cases hh : x.sum.hollow with
  | true => exact re_no en x B cap w hlen hlk ho ht hG hh
  | false =>
    by_cases k1 : x.kind = 1
    · rw [sum_none k1] at hh; cases hh
    by_cases k3 : x.kind = 3
    · exact re_set en x B cap w hlen hlk ho ht hG hh k3
    by_cases k4 : x.kind = 4
    · have e : x.sum = fcatF x.kids.sums := sum_cat k4
      have hE : edgeGo true en noB (kidsV en x.kids.sums) = x.sum.edge en := by rw [e]; exact edge_cats en hok (by rw [← e]; exact hh)
      cases en with
      | false => exact re_4f x B cap w hlen hlk ho ht hG hh k4 hE
      | true => exact re_4t x B cap w hlen hlk ho ht hG hh k4 hE
    by_cases k9 : x.kind = 9
    · obtain ⟨z, hzl, hz⟩ := one_kid (a1 (by omega) (by omega))
      have oz : SumOk z.sum := ok_sum (fun y hy => ho y (kid_nodes hz y hy))
      by_cases h0 : x.hi = 0
      · exact re_rep0 en x B cap w hlen hlk ho ht hG hh k9 h0 z hz
      · have hE := one_e en hzl (sum_rep k9 hz) (by unfold hiF endF; split <;> omega) oz
        cases en with
        | false => exact re_9f x B cap w hlen hlk ho ht hG hh k9 (by simpa using h0) hE
        | true => exact re_9t x B cap w hlen hlk ho ht hG hh k9 (by simpa using h0) hE
    have hE : edgeGo false en noB (kidsV en x.kids.sums) = x.sum.edge en := by
      by_cases k2 : x.kind = 2
      · have : x.kids.sums = [] := List.eq_nil_of_length_eq_zero (by rw [sums_len]; exact a0 (by omega))
        rw [this, sum_two k2]
        cases en <;> rfl
      by_cases k5 : x.kind = 5
      · rw [show x.sum = faltF x.kids.sums from sum_alt k5]
        exact edge_alts en hok
      obtain ⟨z, hzl, hz⟩ := one_kid (a1 (by omega) (by omega))
      have oz : SumOk z.sum := ok_sum (fun y hy => ho y (kid_nodes hz y hy))
      by_cases k6 : x.kind = 6
      · exact one_e en hzl (sum_star k6 hz) (by decide) oz
      by_cases k7 : x.kind = 7
      · exact one_e en hzl (sum_plus k7 hz) (by decide) oz
      have k8 : x.kind = 8 := by omega
      exact one_e en hzl (sum_opt k8 hz) (by decide) oz
    have g3 : (x.kind == 3) = false := by simpa using k3
    have g4 : (x.kind == 4) = false := by simpa using k4
    have g9 : (x.kind == 9) = false := by simpa using k9
    cases en with
    | false => exact re_5f x B cap w hlen hlk ho ht hG hh g3 g4 g9 hE
    | true => exact re_5t x B cap w hlen hlk ho ht hG hh g3 g4 g9 hE
theorem redge_go (en : Bool) (x : Nd) (P : Nat → Prop) (B : Option Addr) (cap : Nat) (w : World) (hlen : x.size ≤ 140737488355328) (ho : ∀ y ∈ x.nodes, aloneN y = true) (ht : TreesAt w P x.kids B) : Calls Tryz.prog 71 #[ndV x B cap, .bool en] w fun e w' => e = .returned (.agg #[.int .u64 ((word (x.sum.edge en) 0 : Nat) : Int), .int .u64 ((word (x.sum.edge en) 1 : Nat) : Int), .int .u64 ((word (x.sum.edge en) 2 : Nat) : Int), .int .u64 ((word (x.sum.edge en) 3 : Nat) : Int)]) ∧ Below w.heap.size w w' := by
  have h : ∀ n, REdC en n := by
    intro n
    induction n with
    | zero => exact fun x _ _ _ h => by unfold Nd.size at h; omega
    | succ n ih => exact red_step ih
  exact h x.size x B cap w (Nat.le_refl _) hlen ho (ht.weak (fun b _ h => h))
set_option maxHeartbeats 4000000 in
theorem rfirst_go (x : Nd) (P : Nat → Prop) (B : Option Addr) (cap : Nat) (w : World) (hs : x.size ≤ 140737488355328) (ho : ∀ y ∈ x.nodes, aloneN y = true) (ht : TreesAt w P x.kids B) :
    Calls Tryz.prog 21 #[ndV x B cap] w fun e w' => e = .returned (.agg #[.int .u64 ((word (x.sum.first) 0 : Nat) : Int), .int .u64 ((word (x.sum.first) 1 : Nat) : Int), .int .u64 ((word (x.sum.first) 2 : Nat) : Int), .int .u64 ((word (x.sum.first) 3 : Nat) : Int)]) ∧ Below w.heap.size w w' := by
  have hb : Below w.heap.size w ((w.alloc (.cells #[.int .i64 x.kind, .int .u64 ((word (x.set.testBit) 0 : Nat) : Int), .int .u64 ((word (x.set.testBit) 1 : Nat) : Int), .int .u64 ((word (x.set.testBit) 2 : Nat) : Int), .int .u64 ((word (x.set.testBit) 3 : Nat) : Int), .slice B x.kids.len cap, .int .i64 x.lo, .int .i64 x.hi] 28)).alloc (.cells #[.int .u64 0, .int .u64 0, .int .u64 0, .int .u64 0] 25)) := ((Below.refl _ _).alloc (Nat.le_refl _) _).alloc (by simp) _
  have HB := Lib.hid hb
  have HR := Lib.hid (show Blk ((w.alloc (.cells #[.int .i64 x.kind, .int .u64 ((word (x.set.testBit) 0 : Nat) : Int), .int .u64 ((word (x.set.testBit) 1 : Nat) : Int), .int .u64 ((word (x.set.testBit) 2 : Nat) : Int), .int .u64 ((word (x.set.testBit) 3 : Nat) : Int), .slice B x.kids.len cap, .int .i64 x.lo, .int .i64 x.hi] 28)).alloc (.cells #[.int .u64 0, .int .u64 0, .int .u64 0, .int .u64 0] 25)) (w.heap.size + 1) 25 #[.int .u64 0, .int .u64 0, .int .u64 0, .int .u64 0] from Blk.new_at (by simp))
  have hc := redge_go false x _ B cap ((w.alloc (.cells #[.int .i64 x.kind, .int .u64 ((word (x.set.testBit) 0 : Nat) : Int), .int .u64 ((word (x.set.testBit) 1 : Nat) : Int), .int .u64 ((word (x.set.testBit) 2 : Nat) : Int), .int .u64 ((word (x.set.testBit) 3 : Nat) : Int), .slice B x.kids.len cap, .int .i64 x.lo, .int .i64 x.hi] 28)).alloc (.cells #[.int .u64 0, .int .u64 0, .int .u64 0, .int .u64 0] 25)) hs ho (ht.below hb)
  rw [show x.sum.edge false = x.sum.first from rfl] at hc
  have HC := Lib.hid hc
  clear hb ht hs ho hc
  unfold ndV at HC ⊢
  go_enter Tryz.func21, Tryz.ntmps21
  go_wp2_with fail
  refine HC.out.mono ?_
  rintro e w3 ⟨rfl, hb3⟩
  have HR3 := Lib.hid (HR.out.below hb3 HR.out.lt)
  have HB3 := Lib.hid (HB.out.trans (hb3.mono HB.out.size))
  clear hb3 HC HB HR
  dsimp only
  have r0 := (HR3.out).cell 0
  have r1 := (HR3.out).cell 1
  have r2 := (HR3.out).cell 2
  have r3 := (HR3.out).cell 3
  have q0 := (HR3.out).frozen 0
  have q1 := (HR3.out).frozen 1
  have q2 := (HR3.out).frozen 2
  have q3 := (HR3.out).frozen 3
  have hlr := (HR3.out).lt
  simp only [List.getElem?_toArray, List.getElem?_cons_zero, List.getElem?_cons_succ] at r0 r1 r2 r3
  go_wp2
  refine bodyPost_ret (ret_set Tryz.results21 rfl (Blk.set4 HR3.out)) rfl ⟨rfl, below_set4 HB3.out (Nat.le_succ _) _ _ _ _⟩
set_option maxHeartbeats 4000000 in
theorem rlast_go (x : Nd) (P : Nat → Prop) (B : Option Addr) (cap : Nat) (w : World) (hs : x.size ≤ 140737488355328) (ho : ∀ y ∈ x.nodes, aloneN y = true) (ht : TreesAt w P x.kids B) :
    Calls Tryz.prog 23 #[ndV x B cap] w fun e w' => e = .returned (.agg #[.int .u64 ((word (x.sum.last) 0 : Nat) : Int), .int .u64 ((word (x.sum.last) 1 : Nat) : Int), .int .u64 ((word (x.sum.last) 2 : Nat) : Int), .int .u64 ((word (x.sum.last) 3 : Nat) : Int)]) ∧ Below w.heap.size w w' := by
  have hb : Below w.heap.size w ((w.alloc (.cells #[.int .i64 x.kind, .int .u64 ((word (x.set.testBit) 0 : Nat) : Int), .int .u64 ((word (x.set.testBit) 1 : Nat) : Int), .int .u64 ((word (x.set.testBit) 2 : Nat) : Int), .int .u64 ((word (x.set.testBit) 3 : Nat) : Int), .slice B x.kids.len cap, .int .i64 x.lo, .int .i64 x.hi] 28)).alloc (.cells #[.int .u64 0, .int .u64 0, .int .u64 0, .int .u64 0] 25)) := ((Below.refl _ _).alloc (Nat.le_refl _) _).alloc (by simp) _
  have HB := Lib.hid hb
  have HR := Lib.hid (show Blk ((w.alloc (.cells #[.int .i64 x.kind, .int .u64 ((word (x.set.testBit) 0 : Nat) : Int), .int .u64 ((word (x.set.testBit) 1 : Nat) : Int), .int .u64 ((word (x.set.testBit) 2 : Nat) : Int), .int .u64 ((word (x.set.testBit) 3 : Nat) : Int), .slice B x.kids.len cap, .int .i64 x.lo, .int .i64 x.hi] 28)).alloc (.cells #[.int .u64 0, .int .u64 0, .int .u64 0, .int .u64 0] 25)) (w.heap.size + 1) 25 #[.int .u64 0, .int .u64 0, .int .u64 0, .int .u64 0] from Blk.new_at (by simp))
  have hc := redge_go true x _ B cap ((w.alloc (.cells #[.int .i64 x.kind, .int .u64 ((word (x.set.testBit) 0 : Nat) : Int), .int .u64 ((word (x.set.testBit) 1 : Nat) : Int), .int .u64 ((word (x.set.testBit) 2 : Nat) : Int), .int .u64 ((word (x.set.testBit) 3 : Nat) : Int), .slice B x.kids.len cap, .int .i64 x.lo, .int .i64 x.hi] 28)).alloc (.cells #[.int .u64 0, .int .u64 0, .int .u64 0, .int .u64 0] 25)) hs ho (ht.below hb)
  rw [show x.sum.edge true = x.sum.last from rfl] at hc
  have HC := Lib.hid hc
  clear hb ht hs ho hc
  unfold ndV at HC ⊢
  go_enter Tryz.func23, Tryz.ntmps23
  go_wp2_with fail
  refine HC.out.mono ?_
  rintro e w3 ⟨rfl, hb3⟩
  have HR3 := Lib.hid (HR.out.below hb3 HR.out.lt)
  have HB3 := Lib.hid (HB.out.trans (hb3.mono HB.out.size))
  clear hb3 HC HB HR
  dsimp only
  have r0 := (HR3.out).cell 0
  have r1 := (HR3.out).cell 1
  have r2 := (HR3.out).cell 2
  have r3 := (HR3.out).cell 3
  have q0 := (HR3.out).frozen 0
  have q1 := (HR3.out).frozen 1
  have q2 := (HR3.out).frozen 2
  have q3 := (HR3.out).frozen 3
  have hlr := (HR3.out).lt
  simp only [List.getElem?_toArray, List.getElem?_cons_zero, List.getElem?_cons_succ] at r0 r1 r2 r3
  go_wp2
  refine bodyPost_ret (ret_set Tryz.results23 rfl (Blk.set4 HR3.out)) rfl ⟨rfl, below_set4 HB3.out (Nat.le_succ _) _ _ _ _⟩
def rlonF (s : SumS) : Int := if lonF s < 0 then -1 else lonF s
set_option maxHeartbeats 4000000 in
theorem rlongest_go (x : Nd) (P : Nat → Prop) (B : Option Addr) (cap : Nat) (w : World) (hs : x.size ≤ 140737488355328) (ho : ∀ y ∈ x.nodes, aloneN y = true) (ht : TreesAt w P x.kids B) :
    Calls Tryz.prog 19 #[ndV x B cap] w fun e w' => e = .returned (.int .i64 (rlonF x.sum)) ∧ Below w.heap.size w w' := by
  have hb : Below w.heap.size w (w.alloc (.cells #[.int .i64 x.kind, .int .u64 ((word (x.set.testBit) 0 : Nat) : Int), .int .u64 ((word (x.set.testBit) 1 : Nat) : Int), .int .u64 ((word (x.set.testBit) 2 : Nat) : Int), .int .u64 ((word (x.set.testBit) 3 : Nat) : Int), .slice B x.kids.len cap, .int .i64 x.lo, .int .i64 x.hi] 28)) := (Below.refl _ _).alloc (Nat.le_refl _) _
  have HB := Lib.hid hb
  have HC := Lib.hid (rlong_go x _ B cap (w.alloc (.cells #[.int .i64 x.kind, .int .u64 ((word (x.set.testBit) 0 : Nat) : Int), .int .u64 ((word (x.set.testBit) 1 : Nat) : Int), .int .u64 ((word (x.set.testBit) 2 : Nat) : Int), .int .u64 ((word (x.set.testBit) 3 : Nat) : Int), .slice B x.kids.len cap, .int .i64 x.lo, .int .i64 x.hi] 28)) hs ho (ht.below hb))
  clear hb ht hs ho
  unfold ndV at HC ⊢
  go_enter Tryz.func19, Tryz.ntmps19
  go_wp2_with fail
  refine HC.out.mono ?_
  rintro e w3 ⟨rfl, hb3⟩
  have HB3 := Lib.hid (HB.out.trans (hb3.mono HB.out.size))
  clear hb3 HC HB
  have HV := Lib.hid (show rlonF x.sum = if lonF x.sum < 0 then -1 else lonF x.sum from rfl)
  generalize lonF x.sum = m at *
  dsimp only
  by_cases h : m < 0
  · have HV2 := Lib.hid (HV.out.trans (if_pos h))
    clear HV
    go_wp2
    go_light
    go_ret
    exact ⟨by rw [HV2.out]; rfl, HB3.out⟩
  · have HV2 := Lib.hid (HV.out.trans (if_neg h))
    clear HV
    go_wp2
    go_light
    go_ret
    exact ⟨by rw [HV2.out]; rfl, HB3.out⟩
theorem long_same {s : SumS} (o : SumOk s) : (if s.long = endF then (-1 : Int) else s.long) = rlonF s := by
  unfold rlonF
  rcases lonF_cases o with ⟨h, h2⟩ | ⟨h, h2, h3⟩ | ⟨h, h2, h3, h4, _⟩
  · rw [h2, o.none h]; rfl
  · rw [h3, if_pos h2]; rfl
  · rw [h3, if_neg h2, if_neg (by omega)]
end Go.Proofs.YtfekpkelmliejaaGreatDoor
