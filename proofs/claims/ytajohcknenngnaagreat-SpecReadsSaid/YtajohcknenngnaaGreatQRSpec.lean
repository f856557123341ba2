/-
  The contracts of the reference's Has and line (chapter 09).
-/
import Derived.Test.YtajohcknenngnaaGreatQSpecLine
import Derived.Test.YtajohcknenngnaaGreatQRText07
namespace Go.Proofs.YtajohcknenngnaaGreat
open Go.RowKit Go.Maps
set_option linter.unusedSimpArgs false
set_option linter.unusedVariables false
set_option maxRecDepth 100000

theorem strOf_eq {a b : List Nat} (ha : ∀ c ∈ a, c < 256) (hb : ∀ c ∈ b, c < 256) : strOf a = strOf b ↔ a = b := by
  constructor
  · intro h
    exact u8_inj ha hb (by rw [← strOf_list, ← strOf_list, h])
  · rintro rfl; rfl
theorem strOf_ne {a b : List Nat} (ha : ∀ c ∈ a, c < 256) (hb : ∀ c ∈ b, c < 256) (h : a ≠ b) : ((strOf a).toList == (strOf b).toList) = false := by
  rw [beq_eq_false_iff_ne, ByteArray.toList_eq, ByteArray.toList_eq, strOf_list, strOf_list]
  exact fun e => h (u8_inj ha hb e)
theorem called_get {rs : List RuleS} {nm : List Nat} : called rs nm = true ↔ ∃ (k : Nat) (r : RuleS), rs[k]? = some r ∧ r.name = nm := by
  unfold called
  rw [List.any_eq_true]
  constructor
  · rintro ⟨r, hr, he⟩
    obtain ⟨k, hk⟩ := List.getElem?_of_mem hr
    exact ⟨k, r, hk, by simpa using he⟩
  · rintro ⟨k, r, hk, he⟩
    exact ⟨r, List.mem_of_getElem? hk, by simpa using he⟩
set_option maxHeartbeats 1000000 in
theorem rhas_go (A : Option Addr) (cap : Nat) (rs : List RuleS) (nm : List Nat) (P : Nat → Prop) (w : World) (hA : RulesAt w P rs A) (hl : rs.length ≤ 100000) (h256 : ∀ r ∈ rs, ∀ c ∈ r.name, c < 256) (hn : ∀ c ∈ nm, c < 256) :
    Calls Tryz.prog 38 #[.slice A rs.length cap, .string (strOf nm)] w fun e w' => e = .returned (.bool (called rs nm)) ∧ w = w' := by
  have HA := Lib.hid hA
  have H2 := Lib.hid h256
  have HN := Lib.hid hn
  clear hA h256 hn
  go_enter Tryz.func38, Tryz.ntmps38
  go_wp2
  go_loop [5] (fun i => ∃ k : Nat, k ≤ rs.length ∧ Hid (∀ j r, j < k → rs[j]? = some r → r.name ≠ nm) ∧ i = .int .i64 (k : Int)) (fun i => rs.length - (intOf i).toNat)
  case atStart => exact ⟨0, Nat.zero_le _, Lib.hid (fun j r h => by omega), rfl⟩
  case round =>
    obtain ⟨k, hk, HK, rfl⟩ := hrel
    by_cases hlt : k < rs.length
    · obtain ⟨r, hr⟩ : ∃ r, rs[k]? = some r := ⟨_, List.getElem?_eq_getElem hlt⟩
      obtain ⟨b, o, B, capb, rfl, _, _, hc, _⟩ := HA.out k r hr
      have heq := strOf_eq (H2.out r (List.mem_of_getElem? hr)) HN.out
      have HR := Lib.hid hr
      by_cases he : r.name = nm
      · have HV := Lib.hid (called_get.2 ⟨k, r, hr, he⟩)
        have hs : ((strOf r.name).toList == (strOf nm).toList) = true := by rw [he]; simp
        clear heq hr he
        go_wp2
        go_ret
        exact ⟨ret_b HV.out.symm, rfl⟩
      · have HV := Lib.hid (show ∀ j r, j < k + 1 → rs[j]? = some r → r.name ≠ nm from fun j r' hj hr' => by
          rcases Nat.lt_or_ge j k with h | h
          · exact HK.out j r' h hr'
          · obtain rfl : j = k := by omega
            rw [HR.out] at hr'
            cases hr'
            exact he)
        have hs := strOf_ne (H2.out r (List.mem_of_getElem? hr)) HN.out he
        clear hr heq he
        go_wp2
        go_round
        case rel => exact ⟨k + 1, by omega, HV, by go_num⟩
        case measure => simp [intOf]; omega
    · have HV := Lib.hid (show called rs nm = false from by
        cases hc : called rs nm
        · rfl
        · obtain ⟨j, r, hj, he⟩ := called_get.1 hc
          exact absurd he (HK.out j r (by have := (List.getElem?_eq_some_iff.1 hj).1; omega) hj))
      go_wp2
      go_ret
      exact ⟨ret_b HV.out.symm, rfl⟩
theorem may_at (bs : List Nat) (k : Nat) (w : World) (h1 : byteAt bs k < 256) :
    Calls Tryz.prog 37 #[.int .u8 ((byteAt bs k : Nat) : Int), .bool ((k : Int) == 0)] w fun e w' => e = .returned (.bool (nameAt bs k)) ∧ w = w' :=
  (may_go (byteAt bs k) ((k : Int) == 0) w h1).mono fun e w' ⟨he, hw⟩ => ⟨by
    rw [he]
    unfold nameAt
    by_cases h : k = 0
    · subst h; rfl
    · rw [if_neg h, if_neg (by rw [beq_iff_eq]; omega)], hw⟩
theorem runS_at {bs : List Nat} {k : Nat} (h : k < runS bs) : nameAt bs k = true := by
  cases hn : nameAt bs k
  · have := runS_stop (Nat.le_of_lt h) (.inr hn)
    omega
  · rfl
theorem runS_not {bs : List Nat} (h : runS bs < bs.length) : nameAt bs (runS bs) = false := by
  cases hn : nameAt bs (runS bs)
  · rfl
  · have := runS_more (Nat.le_refl _) h hn
    omega
theorem ret_rule {fn : Func} {t2 t3 : Tmp} (h : fn.results = #[.cell t2 58, .cell t3 26]) {tmps : Array Value} {w : World} {g g' : Nat} {a a0 a1 a2 a3 a4 a5 a6 a7 x y : Value}
    (hp : tmps.getD t2 undef = .pointer (some ⟨g, 0, none⟩)) (hp' : tmps.getD t3 undef = .pointer (some ⟨g', 0, none⟩)) (hb : Blk w g 58 #[a, a0, a1, a2, a3, a4, a5, a6, a7]) (hb' : Blk w g' 26 #[x, y]) :
    (results fn tmps).run Tryz.prog w = .ok (.tuple #[.agg #[a, a0, a1, a2, a3, a4, a5, a6, a7], .agg #[x, y]]) w := by
  have h1 := run_loadVar_row (P := Tryz.prog) w g 58 58 #[a, a0, a1, a2, a3, a4, a5, a6, a7] (0, 0) _ hb Tryz.underlying58 rfl (by kernel_rfl)
  have h2 := run_loadVar_row (P := Tryz.prog) w g' 26 26 #[x, y] (0, 0) _ hb' Tryz.underlying26 rfl (by kernel_rfl)
  simp only [results, h]
  simp only [Array.getD_eq_getD_getElem?] at hp hp'
  simp [Sem.run_bind, hp, hp', asAddr, h1, h2, Result.andThen]
/-- A rule, or what is wrong. -/
def RLineOut (r : Except Wrong RuleS) (w : World) (e : Ending) (w' : World) : Prop :=
  match r with
  | .ok r => ∃ B cap, e = .returned (.tuple #[.agg (ruleCell r B cap).toArray, .agg #[.int .i64 0, .int .i64 0]]) ∧ Below w.heap.size w w' ∧ r.body.kids.len ≤ cap ∧ TreesAt w' (fun b => w.heap.size ≤ b) r.body.kids B
  | .error (k, q) => e = .returned (.tuple #[.agg #[.string { data := #[] }, .int .i64 0, .int .u64 0, .int .u64 0, .int .u64 0, .int .u64 0, .slice none 0 0, .int .i64 0, .int .i64 0], .agg #[.int .i64 k, .int .i64 q]]) ∧ Below w.heap.size w w'
set_option maxHeartbeats 2000000 in
theorem rline_many (Al Ar : Option Addr) (cap capr : Nat) (rs : List RuleS) (bs : List Nat) (w : World) (h64 : rs.length = 64) :
    Calls Tryz.prog 17 #[.slice Al bs.length cap, .slice Ar rs.length capr] w (RLineOut (lineS rs bs) w) := by
  have HV := Lib.hid (show lineS rs bs = .error (18, 0) by unfold lineS headS; rw [if_pos h64])
  have hd : decide ((64 : Int) ≤ (rs.length : Int)) = true := by rw [decide_eq_true_eq]; omega
  clear h64
  go_enter Tryz.func17, Tryz.ntmps17
  go_wp2
  go_light
  refine bodyPost_ret (ret_rule Tryz.results17 rfl rfl ((Blk.new _ _ _).alloc _) (Blk.new_at (by simp))) rfl ?_
  unfold RLineOut
  rw [HV.out]
  exact ⟨rfl, ((Below.refl _ _).alloc (Nat.le_refl _) _).alloc (by simp) _⟩
set_option maxHeartbeats 2000000 in
theorem rline_none (Al Ar : Option Addr) (cap capr : Nat) (rs : List RuleS) (bs : List Nat) (w : World) (h64 : rs.length < 64) (hA : BytesAt w w.heap.size Al bs) (h0 : runS bs = 0) :
    Calls Tryz.prog 17 #[.slice Al bs.length cap, .slice Ar rs.length capr] w (RLineOut (lineS rs bs) w) := by
  have HV := Lib.hid (show lineS rs bs = .error (9, 0) by unfold lineS headS; rw [if_neg (by omega), if_pos h0])
  have hd : decide ((64 : Int) ≤ (rs.length : Int)) = false := by rw [decide_eq_false_iff_not]; omega
  have hA1 : BytesAt (w.alloc (.cells #[.string { data := #[] }, .int .i64 0, .int .u64 0, .int .u64 0, .int .u64 0, .int .u64 0, .slice none 0 0, .int .i64 0, .int .i64 0] 58) |>.alloc (.cells #[.int .i64 0, .int .i64 0] 26)) w.heap.size Al bs := hA.below (((Below.refl _ _).alloc (Nat.le_refl _) _).alloc (by simp) _)
  have hlen := hA.2.1
  have HA := Lib.hid hA1
  have hrl := runS_le bs
  obtain ⟨m, hm⟩ : ∃ m, m = min (runS bs) 32 := ⟨_, rfl⟩
  have HM := Lib.hid (show m ≤ runS bs ∧ runS bs ≤ bs.length ∧ m ≤ 32 by omega)
  have hm0 : m = 0 := by omega
  have hstop := runS_not (bs := bs)
  rw [h0] at hstop
  have HS := Lib.hid hstop
  clear hA hA1 hrl hm h0 hstop
  go_enter Tryz.func17, Tryz.ntmps17
  go_wp2
  go_loop [6] (fun i => i = .int .i64 0) (fun i => 0)
  case atStart => rfl
  case round =>
      subst hrel
      subst hm0
      rcases Nat.eq_zero_or_pos bs.length with hz | hz
      · rw [hz]
        clear hz
        go_wp2
        refine bodyPost_ret (ret_rule Tryz.results17 rfl rfl ((Blk.new _ _ _).alloc _) (Blk.new_at (by simp))) rfl ?_
        unfold RLineOut
        rw [HV.out]
        exact ⟨rfl, ((Below.refl _ _).alloc (Nat.le_refl _) _).alloc (by simp) _⟩
      · obtain ⟨b, o, rfl, hc, hb⟩ := HA.out.one hz
        rw [Nat.add_zero] at hc
        have HC := Lib.hid ((may_at bs 0 (w.alloc (.cells #[.string { data := #[] }, .int .i64 0, .int .u64 0, .int .u64 0, .int .u64 0, .int .u64 0, .slice none 0 0, .int .i64 0, .int .i64 0] 58) |>.alloc (.cells #[.int .i64 0, .int .i64 0] 26)) hb).mono (fun e w' h => by rw [HS.out hz] at h; exact h))
        go_wp2_with (refine HC.out.mono ?_; rintro e w' ⟨rfl, rfl⟩)
        refine bodyPost_ret (ret_rule Tryz.results17 rfl rfl ((Blk.new _ _ _).alloc _) (Blk.new_at (by simp))) rfl ?_
        unfold RLineOut
        rw [HV.out]
        exact ⟨rfl, ((Below.refl _ _).alloc (Nat.le_refl _) _).alloc (by simp) _⟩

set_option maxHeartbeats 2000000 in
theorem rline_long (Al Ar : Option Addr) (cap capr : Nat) (rs : List RuleS) (bs : List Nat) (w : World) (h64 : rs.length < 64) (hA : BytesAt w w.heap.size Al bs) (h0 : 32 < runS bs) :
    Calls Tryz.prog 17 #[.slice Al bs.length cap, .slice Ar rs.length capr] w (RLineOut (lineS rs bs) w) := by
  have HV := Lib.hid (show lineS rs bs = .error (9, 32) by unfold lineS headS; rw [if_neg (by omega), if_neg (by omega), if_pos h0])
  have hd : decide ((64 : Int) ≤ (rs.length : Int)) = false := by rw [decide_eq_false_iff_not]; omega
  have hA1 : BytesAt (w.alloc (.cells #[.string { data := #[] }, .int .i64 0, .int .u64 0, .int .u64 0, .int .u64 0, .int .u64 0, .slice none 0 0, .int .i64 0, .int .i64 0] 58) |>.alloc (.cells #[.int .i64 0, .int .i64 0] 26)) w.heap.size Al bs := hA.below (((Below.refl _ _).alloc (Nat.le_refl _) _).alloc (by simp) _)
  have hlen := hA.2.1
  have HA := Lib.hid hA1
  have hrl := runS_le bs
  obtain ⟨m, hm⟩ : ∃ m, m = 32 := ⟨_, rfl⟩
  have HM := Lib.hid (show m ≤ runS bs ∧ runS bs ≤ bs.length ∧ m ≤ 32 by omega)
  have HS := Lib.hid (runS_at (bs := bs) (k := 32) (by omega))
  have hz : 32 < bs.length := by omega
  have Hm := Lib.hid hm
  clear hA hA1 hrl h0 hm
  go_enter Tryz.func17, Tryz.ntmps17
  go_wp2
  go_loop [6] (fun i => ∃ k : Nat, k ≤ m ∧ i = .int .i64 (k : Int)) (fun i => m - (intOf i).toNat)
  case atStart => exact ⟨0, Nat.zero_le _, rfl⟩
  case round =>
    obtain ⟨k, hk, rfl⟩ := hrel
    by_cases hlt : k < m
    · have hmx := HM.out
      have hk1 : k < bs.length := by omega
      have hk2 : k < 32 := by omega
      obtain ⟨b, o, rfl, hc, hb⟩ := HA.out.one hk1
      have HC := Lib.hid ((may_at bs k (w.alloc (.cells #[.string { data := #[] }, .int .i64 0, .int .u64 0, .int .u64 0, .int .u64 0, .int .u64 0, .slice none 0 0, .int .i64 0, .int .i64 0] 58) |>.alloc (.cells #[.int .i64 0, .int .i64 0] 26)) hb).mono (fun e w' h => by rw [runS_at (show k < runS bs by omega)] at h; exact h))
      clear hmx
      go_wp2_with (refine HC.out.mono ?_; rintro e w' ⟨rfl, rfl⟩)
      go_round
      case rel => exact ⟨k + 1, by omega, by go_num⟩
      case measure => (simp [intOf]; try omega)
    · obtain rfl : k = m := by omega
      have hm := Hm.out
      subst hm
      obtain ⟨b, o, rfl, hc, hb⟩ := HA.out.one hz
      have HC := Lib.hid ((may_at bs 32 (w.alloc (.cells #[.string { data := #[] }, .int .i64 0, .int .u64 0, .int .u64 0, .int .u64 0, .int .u64 0, .slice none 0 0, .int .i64 0, .int .i64 0] 58) |>.alloc (.cells #[.int .i64 0, .int .i64 0] 26)) hb).mono (fun e w' h => by rw [HS.out] at h; exact h))
      go_wp2_with (refine HC.out.mono ?_; rintro e w' ⟨rfl, rfl⟩)
      refine bodyPost_ret (ret_rule Tryz.results17 rfl rfl ((Blk.new _ _ _).alloc _) (Blk.new_at (by simp))) rfl ?_
      unfold RLineOut
      rw [HV.out]
      exact ⟨rfl, ((Below.refl _ _).alloc (Nat.le_refl _) _).alloc (by simp) _⟩
theorem may_off (bs : List Nat) (k : Nat) (w : World) (h1 : byteAt bs k < 256) (hk : k ≠ 0) (hn : nameAt bs k = false) :
    Calls Tryz.prog 37 #[.int .u8 ((byteAt bs k : Nat) : Int), .bool false] w fun e w' => e = .returned (.bool false) ∧ w = w' :=
  (may_go (byteAt bs k) false w h1).mono fun e w' ⟨he, hw⟩ => ⟨by
    rw [he]
    unfold nameAt at hn
    rw [if_neg hk] at hn
    rw [hn]
    rfl, hw⟩
theorem runS_bound {bs : List Nat} (h : runS bs = 32) (h2 : 32 < bs.length) : nameAt bs 32 = false := by
  have := runS_not (bs := bs) (by omega)
  rwa [h] at this
set_option maxHeartbeats 2000000 in
theorem rline_colon (Al Ar : Option Addr) (cap capr : Nat) (rs : List RuleS) (bs : List Nat) (w : World) (h64 : rs.length < 64) (hA : BytesAt w w.heap.size Al bs) (h0 : runS bs ≠ 0) (h32 : runS bs ≤ 32) (hc : runS bs = bs.length ∨ byteAt bs (runS bs) ≠ 58) :
    Calls Tryz.prog 17 #[.slice Al bs.length cap, .slice Ar rs.length capr] w (RLineOut (lineS rs bs) w) := by
  have HV := Lib.hid (show lineS rs bs = .error (10, (runS bs : Nat)) by unfold lineS headS; rw [if_neg (by omega), if_neg h0, if_neg (by omega), if_pos hc])
  have hd : decide ((64 : Int) ≤ (rs.length : Int)) = false := by rw [decide_eq_false_iff_not]; omega
  have hA1 : BytesAt (w.alloc (.cells #[.string { data := #[] }, .int .i64 0, .int .u64 0, .int .u64 0, .int .u64 0, .int .u64 0, .slice none 0 0, .int .i64 0, .int .i64 0] 58) |>.alloc (.cells #[.int .i64 0, .int .i64 0] 26)) w.heap.size Al bs := hA.below (((Below.refl _ _).alloc (Nat.le_refl _) _).alloc (by simp) _)
  have hlen := hA.2.1
  have HA := Lib.hid hA1
  have hrl := runS_le bs
  obtain ⟨m, hm⟩ : ∃ m, m = runS bs := ⟨_, rfl⟩
  have HM := Lib.hid (show m ≤ runS bs ∧ runS bs ≤ bs.length ∧ m ≤ 32 by omega)
  have HN1 := Lib.hid (show m < bs.length → nameAt bs m = false by rw [hm]; exact runS_not)
  have hm0 : ((m : Int) == 0) = false := by rw [beq_eq_false_iff_ne]; omega
  have hmle : m ≤ 32 ∧ m ≤ bs.length := by omega

  rw [← hm] at HV
  have HC := Lib.hid (show m = bs.length ∨ byteAt bs m ≠ 58 by rw [hm]; exact hc)
  clear hA hA1 hrl hm h0 h32 hc
  go_enter Tryz.func17, Tryz.ntmps17
  go_wp2
  go_loop [6] (fun i => ∃ k : Nat, k ≤ m ∧ i = .int .i64 (k : Int)) (fun i => m - (intOf i).toNat)
  case atStart => exact ⟨0, Nat.zero_le _, rfl⟩
  case round =>
    obtain ⟨k, hk, rfl⟩ := hrel
    by_cases hlt : k < m
    · have hmx := HM.out
      have hk1 : k < bs.length := by omega
      have hk2 : k < 32 := by omega
      obtain ⟨b, o, rfl, hc, hb⟩ := HA.out.one hk1
      have HC := Lib.hid ((may_at bs k (w.alloc (.cells #[.string { data := #[] }, .int .i64 0, .int .u64 0, .int .u64 0, .int .u64 0, .int .u64 0, .slice none 0 0, .int .i64 0, .int .i64 0] 58) |>.alloc (.cells #[.int .i64 0, .int .i64 0] 26)) hb).mono (fun e w' h => by rw [runS_at (show k < runS bs by omega)] at h; exact h))
      clear hmx
      go_wp2_with (refine HC.out.mono ?_; rintro e w' ⟨rfl, rfl⟩)
      go_round
      case rel => exact ⟨k + 1, by omega, by go_num⟩
      case measure => (simp [intOf]; try omega)
    · obtain rfl : k = m := by omega
      rcases Nat.lt_or_ge k bs.length with hz | hz
      · obtain ⟨b, o, rfl, hc, hb⟩ := HA.out.one hz
        have HC2 := Lib.hid (may_off bs k (w.alloc (.cells #[.string { data := #[] }, .int .i64 0, .int .u64 0, .int .u64 0, .int .u64 0, .int .u64 0, .slice none 0 0, .int .i64 0, .int .i64 0] 58) |>.alloc (.cells #[.int .i64 0, .int .i64 0] 26)) hb (fun h => by rw [h] at hm0; cases hm0) (HN1.out hz))
        have h58 : (((byteAt bs k : Nat) : Int) != 58) = true := by
          rw [bne_iff_ne]
          rcases HC.out with h | h <;> omega
        have hne : ((k : Int) == ((bs.length : Nat) : Int)) = false := by rw [beq_eq_false_iff_ne]; omega
        rcases Nat.lt_or_ge k 32 with h32 | h32
        · have h32b : ((k : Int) == 32) = false := by rw [beq_eq_false_iff_ne]; omega
          go_wp2_with (refine HC2.out.mono ?_; rintro e w' ⟨rfl, rfl⟩)
          go_light
          refine bodyPost_ret (ret_rule Tryz.results17 rfl rfl ((Blk.new _ _ _).alloc _) (Blk.new_at (by simp))) rfl ?_
          unfold RLineOut
          rw [HV.out]
          exact ⟨rfl, ((Below.refl _ _).alloc (Nat.le_refl _) _).alloc (by simp) _⟩
        · have h32b : ((k : Int) == 32) = true := by rw [beq_iff_eq]; omega
          go_wp2_with (refine HC2.out.mono ?_; rintro e w' ⟨rfl, rfl⟩)
          go_light
          refine bodyPost_ret (ret_rule Tryz.results17 rfl rfl ((Blk.new _ _ _).alloc _) (Blk.new_at (by simp))) rfl ?_
          unfold RLineOut
          rw [HV.out]
          exact ⟨rfl, ((Below.refl _ _).alloc (Nat.le_refl _) _).alloc (by simp) _⟩
      · have hz2 : k = bs.length := by omega
        subst hz2
        rcases Nat.lt_or_ge bs.length 32 with h32 | h32
        · have h32b : ((bs.length : Int) == 32) = false := by rw [beq_eq_false_iff_ne]; omega
          go_wp2
          go_light
          refine bodyPost_ret (ret_rule Tryz.results17 rfl rfl ((Blk.new _ _ _).alloc _) (Blk.new_at (by simp))) rfl ?_
          unfold RLineOut
          rw [HV.out]
          exact ⟨rfl, ((Below.refl _ _).alloc (Nat.le_refl _) _).alloc (by simp) _⟩
        · have h32b : ((bs.length : Int) == 32) = true := by rw [beq_iff_eq]; omega
          go_wp2
          go_light
          refine bodyPost_ret (ret_rule Tryz.results17 rfl rfl ((Blk.new _ _ _).alloc _) (Blk.new_at (by simp))) rfl ?_
          unfold RLineOut
          rw [HV.out]
          exact ⟨rfl, ((Below.refl _ _).alloc (Nat.le_refl _) _).alloc (by simp) _⟩
end Go.Proofs.YtajohcknenngnaaGreat
