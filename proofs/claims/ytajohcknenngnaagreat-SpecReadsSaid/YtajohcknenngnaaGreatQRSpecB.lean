/-
  The contract of the reference's line (chapter 09): a name and what follows.
-/
import Derived.Test.YtajohcknenngnaaGreatQRSpec
import Derived.Test.YtajohcknenngnaaGreatQNine
namespace Go.Proofs.YtajohcknenngnaaGreat
open Go.RowKit Go.Maps
set_option linter.unusedSimpArgs false
set_option linter.unusedVariables false
set_option maxRecDepth 100000

set_option maxHeartbeats 1000000 in
theorem rline_twice (b o : Nat) (Ar : Option Addr) (cap capr : Nat) (rs : List RuleS) (bs : List Nat) (P : Nat → Prop) (w : World) (h64 : rs.length < 64) (hA : BytesAt w w.heap.size (some ⟨b, o, none⟩) bs) (hcap : bs.length ≤ cap) (hR : RulesAt w P rs Ar) (h256 : ∀ r ∈ rs, ∀ c ∈ r.name, c < 256) (h0 : runS bs ≠ 0) (h32 : runS bs ≤ 32) (hlt : runS bs < bs.length) (h58 : byteAt bs (runS bs) = 58) (hc : called rs (bs.take (runS bs)) = true) :
    Calls Tryz.prog 17 #[.slice (some ⟨b, o, none⟩) bs.length cap, .slice Ar rs.length capr] w (RLineOut (lineS rs bs) w) := by
  have HV := Lib.hid (show lineS rs bs = .error (8, 0) by unfold lineS headS; rw [if_neg (by omega), if_neg h0, if_neg (by omega), if_neg (by omega), if_pos (show (rs.any fun r => decide (r.name = bs.take (runS bs))) = true from hc)])
  have hd : decide ((64 : Int) ≤ (rs.length : Int)) = false := by rw [decide_eq_false_iff_not]; omega
  have hB2 : Below w.heap.size w ((w.alloc (.cells #[.string { data := #[] }, .int .i64 0, .int .u64 0, .int .u64 0, .int .u64 0, .int .u64 0, .slice none 0 0, .int .i64 0, .int .i64 0] 58)).alloc (.cells #[.int .i64 0, .int .i64 0] 26)) := ((Below.refl _ _).alloc (Nat.le_refl _) _).alloc (by simp) _
  have hA1 : BytesAt ((w.alloc (.cells #[.string { data := #[] }, .int .i64 0, .int .u64 0, .int .u64 0, .int .u64 0, .int .u64 0, .slice none 0 0, .int .i64 0, .int .i64 0] 58)).alloc (.cells #[.int .i64 0, .int .i64 0] 26)) w.heap.size (some ⟨b, o, none⟩) bs := hA.below hB2
  have hlen := hA.2.1
  have hrl := runS_le bs
  obtain ⟨_, _, e0, _, hcells⟩ := hA1.2.2 (by omega)
  cases e0
  have hstr := str_run _ b o (runS bs) cap bs (by omega) hcells
  have hcs := hcells (runS bs) hlt
  rw [h58] at hcs
  have hcs : (((w.alloc (.cells #[.string { data := #[] }, .int .i64 0, .int .u64 0, .int .u64 0, .int .u64 0, .int .u64 0, .slice none 0 0, .int .i64 0, .int .i64 0] 58)).alloc (.cells #[.int .i64 0, .int .i64 0] 26))).cell? ⟨b, o + runS bs, none⟩ = some (.int .u8 58) := hcs
  have hnm : ∀ c ∈ bs.take (runS bs), c < 256 := fun c hc => hA.1 c (List.mem_of_mem_take hc)
  have HH := Lib.hid (rhas_go Ar capr rs (bs.take (runS bs)) P ((w.alloc (.cells #[.string { data := #[] }, .int .i64 0, .int .u64 0, .int .u64 0, .int .u64 0, .int .u64 0, .slice none 0 0, .int .i64 0, .int .i64 0] 58)).alloc (.cells #[.int .i64 0, .int .i64 0] 26)) (hR.below hB2) (by omega) h256 hnm)
  have HA := Lib.hid hA1
  obtain ⟨m, hm⟩ : ∃ m, m = runS bs := ⟨_, rfl⟩
  have HM := Lib.hid (show m ≤ runS bs ∧ runS bs ≤ bs.length ∧ m ≤ 32 by omega)
  have HN1 := Lib.hid (show m < bs.length → nameAt bs m = false by rw [hm]; exact runS_not)
  have hm0 : ((m : Int) == 0) = false := by rw [beq_eq_false_iff_ne]; omega
  have hmle : m ≤ 32 ∧ m < bs.length := by omega
  have hne : ((m : Int) == ((bs.length : Nat) : Int)) = false := by rw [beq_eq_false_iff_ne]; omega
  rw [← hm] at hstr hcs HH

  rw [hm, hc, ← hm] at HH
  clear hA hA1 hB2 hrl hm h0 h32 hc hcells hR hlt h58 hnm h256
  go_enter Tryz.func17, Tryz.ntmps17
  go_wp2
  go_loop [6] (fun i => ∃ k : Nat, k ≤ m ∧ i = .int .i64 (k : Int)) (fun i => m - (intOf i).toNat)
  case atStart => exact ⟨0, Nat.zero_le _, rfl⟩
  case round =>
    obtain ⟨k, hk, rfl⟩ := hrel
    by_cases hlt : k < m
    · have hmx := HM.out
      have hk1 : k < bs.length := by omega
      have hk2 : k < 32 := by omega
      obtain ⟨_, _, e0, hc, hb⟩ := HA.out.one hk1
      cases e0
      have HC := Lib.hid ((may_at bs k (w.alloc (.cells #[.string { data := #[] }, .int .i64 0, .int .u64 0, .int .u64 0, .int .u64 0, .int .u64 0, .slice none 0 0, .int .i64 0, .int .i64 0] 58) |>.alloc (.cells #[.int .i64 0, .int .i64 0] 26)) hb).mono (fun e w' h => by rw [runS_at (show k < runS bs by omega)] at h; exact h))
      clear hmx
      go_wp2_with (refine HC.out.mono ?_; rintro e w' ⟨rfl, rfl⟩)
      go_round
      case rel => exact ⟨k + 1, by omega, by go_num⟩
      case measure => (simp [intOf]; try omega)
    · obtain rfl : k = m := by omega
      obtain ⟨hk32, hkl⟩ := hmle
      have HC2 := Lib.hid (show Calls Tryz.prog 37 #[.int .u8 58, .bool false] ((w.alloc (.cells #[.string { data := #[] }, .int .i64 0, .int .u64 0, .int .u64 0, .int .u64 0, .int .u64 0, .slice none 0 0, .int .i64 0, .int .i64 0] 58)).alloc (.cells #[.int .i64 0, .int .i64 0] 26)) (fun e w' => e = .returned (.bool false) ∧ ((w.alloc (.cells #[.string { data := #[] }, .int .i64 0, .int .u64 0, .int .u64 0, .int .u64 0, .int .u64 0, .slice none 0 0, .int .i64 0, .int .i64 0] 58)).alloc (.cells #[.int .i64 0, .int .i64 0] 26)) = w') from may_go 58 false _ (by decide))
      rcases Nat.lt_or_ge k 32 with h32 | h32
      · have hm32 : ((k : Int) == 32) = false := by rw [beq_eq_false_iff_ne]; omega
        go_wp2_with (first | (go_at_call 37; refine HC2.out.mono ?_; rintro e w' ⟨rfl, rfl⟩) | (go_at_call 38; refine HH.out.mono ?_; rintro e w' ⟨rfl, rfl⟩))
        go_light
        refine bodyPost_ret (ret_rule Tryz.results17 rfl rfl ((Blk.new _ _ _).alloc _) (Blk.new_at (by simp))) rfl ?_
        unfold RLineOut
        rw [HV.out]
        exact ⟨rfl, ((Below.refl _ _).alloc (Nat.le_refl _) _).alloc (by simp) _⟩
      · have hm32 : ((k : Int) == 32) = true := by rw [beq_iff_eq]; omega
        go_wp2_with (first | (go_at_call 37; refine HC2.out.mono ?_; rintro e w' ⟨rfl, rfl⟩) | (go_at_call 38; refine HH.out.mono ?_; rintro e w' ⟨rfl, rfl⟩))
        go_light
        refine bodyPost_ret (ret_rule Tryz.results17 rfl rfl ((Blk.new _ _ _).alloc _) (Blk.new_at (by simp))) rfl ?_
        unfold RLineOut
        rw [HV.out]
        exact ⟨rfl, ((Below.refl _ _).alloc (Nat.le_refl _) _).alloc (by simp) _⟩

set_option maxHeartbeats 4000000 in
theorem rline_err (b o : Nat) (Ar : Option Addr) (cap capr : Nat) (rs : List RuleS) (bs : List Nat) (P : Nat → Prop) (w : World) (h64 : rs.length < 64) (hA : BytesAt w w.heap.size (some ⟨b, o, none⟩) bs) (hcap : bs.length ≤ cap) (hR : RulesAt w P rs Ar) (h256 : ∀ r ∈ rs, ∀ c ∈ r.name, c < 256) (h0 : runS bs ≠ 0) (h32 : runS bs ≤ 32) (hlt : runS bs < bs.length) (h58 : byteAt bs (runS bs) = 58) (hc : called rs (bs.take (runS bs)) = false) {kk q : Int} (hx : parseS (bs.drop (runS bs + 1)) = .error (kk, q)) :
    Calls Tryz.prog 17 #[.slice (some ⟨b, o, none⟩) bs.length cap, .slice Ar rs.length capr] w (RLineOut (lineS rs bs) w) := by
  have hlt' : (bs.take (runS bs)).length = runS bs := by rw [List.length_take]; omega
  have HV := Lib.hid (show lineS rs bs = .error (kk, q + runS bs + 1) by unfold lineS headS; rw [if_neg (by omega), if_neg h0, if_neg (by omega), if_neg (by omega), if_neg (show ¬ (rs.any fun r => decide (r.name = bs.take (runS bs))) = true from fun h => by rw [show (rs.any fun r => decide (r.name = bs.take (runS bs))) = called rs (bs.take (runS bs)) from rfl, hc] at h; cases h)]; dsimp only; rw [hlt', hx])
  have hbsub : ∀ x ∈ bs.drop (runS bs + 1), x < 256 := fun x hx => hA.1 x (List.mem_of_mem_drop hx)
  have hkk : (kk != 0) = true := by rw [bne_iff_ne]; exact parseS_kindK hbsub hx
  have hq := parseS_at hbsub hx
  rw [List.length_drop] at hq
  have hd : decide ((64 : Int) ≤ (rs.length : Int)) = false := by rw [decide_eq_false_iff_not]; omega
  have hB2 : Below w.heap.size w ((w.alloc (.cells #[.string { data := #[] }, .int .i64 0, .int .u64 0, .int .u64 0, .int .u64 0, .int .u64 0, .slice none 0 0, .int .i64 0, .int .i64 0] 58)).alloc (.cells #[.int .i64 0, .int .i64 0] 26)) := ((Below.refl _ _).alloc (Nat.le_refl _) _).alloc (by simp) _
  have hA1 : BytesAt ((w.alloc (.cells #[.string { data := #[] }, .int .i64 0, .int .u64 0, .int .u64 0, .int .u64 0, .int .u64 0, .slice none 0 0, .int .i64 0, .int .i64 0] 58)).alloc (.cells #[.int .i64 0, .int .i64 0] 26)) w.heap.size (some ⟨b, o, none⟩) bs := hA.below hB2
  have hlen := hA.2.1
  have hrl := runS_le bs
  obtain ⟨_, _, e0, _, hcells⟩ := hA1.2.2 (by omega)
  cases e0
  have hstr := str_run _ b o (runS bs) cap bs (by omega) hcells
  have hcs := hcells (runS bs) hlt
  rw [h58] at hcs
  have hcs : (((w.alloc (.cells #[.string { data := #[] }, .int .i64 0, .int .u64 0, .int .u64 0, .int .u64 0, .int .u64 0, .slice none 0 0, .int .i64 0, .int .i64 0] 58)).alloc (.cells #[.int .i64 0, .int .i64 0] 26))).cell? ⟨b, o + runS bs, none⟩ = some (.int .u8 58) := hcs
  have hnm : ∀ c ∈ bs.take (runS bs), c < 256 := fun c hc => hA.1 c (List.mem_of_mem_take hc)
  have HH := Lib.hid (rhas_go Ar capr rs (bs.take (runS bs)) P ((w.alloc (.cells #[.string { data := #[] }, .int .i64 0, .int .u64 0, .int .u64 0, .int .u64 0, .int .u64 0, .slice none 0 0, .int .i64 0, .int .i64 0] 58)).alloc (.cells #[.int .i64 0, .int .i64 0] 26)) (hR.below hB2) (by omega) h256 hnm)
  have HA := Lib.hid hA1
  obtain ⟨m, hm⟩ : ∃ m, m = runS bs := ⟨_, rfl⟩
  have HM := Lib.hid (show m ≤ runS bs ∧ runS bs ≤ bs.length ∧ m ≤ 32 by omega)
  have HN1 := Lib.hid (show m < bs.length → nameAt bs m = false by rw [hm]; exact runS_not)
  have hm0 : ((m : Int) == 0) = false := by rw [beq_eq_false_iff_ne]; omega
  have hmle : m ≤ 32 ∧ m < bs.length := by omega
  have hne : ((m : Int) == ((bs.length : Nat) : Int)) = false := by rw [beq_eq_false_iff_ne]; omega
  rw [← hm] at hstr hcs HH

  have Hdl := Lib.hid (show (bs.drop (m + 1)).length = bs.length - (m + 1) by simp)
  have hP := fun (A' : Option Addr) (hA' : BytesAt ((w.alloc (.cells #[.string { data := #[] }, .int .i64 0, .int .u64 0, .int .u64 0, .int .u64 0, .int .u64 0, .slice none 0 0, .int .i64 0, .int .i64 0] 58)).alloc (.cells #[.int .i64 0, .int .i64 0] 26)) (((w.alloc (.cells #[.string { data := #[] }, .int .i64 0, .int .u64 0, .int .u64 0, .int .u64 0, .int .u64 0, .slice none 0 0, .int .i64 0, .int .i64 0] 58)).alloc (.cells #[.int .i64 0, .int .i64 0] 26))).heap.size A' (bs.drop (m + 1))) => rtext_go07 A' (cap - (m + 1)) (bs.drop (m + 1)) ((w.alloc (.cells #[.string { data := #[] }, .int .i64 0, .int .u64 0, .int .u64 0, .int .u64 0, .int .u64 0, .slice none 0 0, .int .i64 0, .int .i64 0] 58)).alloc (.cells #[.int .i64 0, .int .i64 0] 26)) hA' (by rw [Hdl.out]; omega)
  rw [← hm] at hx
  rw [hx, Hdl.out] at hP
  have HP := Lib.hid hP
  have HX2 := Lib.hid (show _ ∧ _ ∧ _ from ⟨hB2, (show Blk ((w.alloc (.cells #[.string { data := #[] }, .int .i64 0, .int .u64 0, .int .u64 0, .int .u64 0, .int .u64 0, .slice none 0 0, .int .i64 0, .int .i64 0] 58)).alloc (.cells #[.int .i64 0, .int .i64 0] 26)) w.heap.size 58 _ from (Blk.new w 58 #[.string { data := #[] }, .int .i64 0, .int .u64 0, .int .u64 0, .int .u64 0, .int .u64 0, .slice none 0 0, .int .i64 0, .int .i64 0]).alloc _), (show Blk ((w.alloc (.cells #[.string { data := #[] }, .int .i64 0, .int .u64 0, .int .u64 0, .int .u64 0, .int .u64 0, .slice none 0 0, .int .i64 0, .int .i64 0] 58)).alloc (.cells #[.int .i64 0, .int .i64 0] 26)) (w.heap.size + 1) 26 #[.int .i64 0, .int .i64 0] from Blk.new_at (by simp))⟩)

  rw [hm, hc, ← hm] at HH
  rw [← hm] at HV
  have hqb : q ≤ 140737488355328 := by omega
  clear hA hA1 hB2 hrl hm h0 h32 hc hcells hR hlt h58 hnm h256 hx hP hbsub hlt'
  go_enter Tryz.func17, Tryz.ntmps17
  go_wp2
  go_loop [6] (fun i => ∃ k : Nat, k ≤ m ∧ i = .int .i64 (k : Int)) (fun i => m - (intOf i).toNat)
  case atStart => exact ⟨0, Nat.zero_le _, rfl⟩
  case round =>
    obtain ⟨k, hk, rfl⟩ := hrel
    by_cases hlt : k < m
    · have hmx := HM.out
      have hk1 : k < bs.length := by omega
      have hk2 : k < 32 := by omega
      obtain ⟨_, _, e0, hc, hb⟩ := HA.out.one hk1
      cases e0
      have HC := Lib.hid ((may_at bs k (w.alloc (.cells #[.string { data := #[] }, .int .i64 0, .int .u64 0, .int .u64 0, .int .u64 0, .int .u64 0, .slice none 0 0, .int .i64 0, .int .i64 0] 58) |>.alloc (.cells #[.int .i64 0, .int .i64 0] 26)) hb).mono (fun e w' h => by rw [runS_at (show k < runS bs by omega)] at h; exact h))
      clear hmx
      go_wp2_with (refine HC.out.mono ?_; rintro e w' ⟨rfl, rfl⟩)
      go_round
      case rel => exact ⟨k + 1, by omega, by go_num⟩
      case measure => (simp [intOf]; try omega)
    · obtain rfl : k = m := by omega
      obtain ⟨hk32, hkl⟩ := hmle
      have HC2 := Lib.hid (show Calls Tryz.prog 37 #[.int .u8 58, .bool false] ((w.alloc (.cells #[.string { data := #[] }, .int .i64 0, .int .u64 0, .int .u64 0, .int .u64 0, .int .u64 0, .slice none 0 0, .int .i64 0, .int .i64 0] 58)).alloc (.cells #[.int .i64 0, .int .i64 0] 26)) (fun e w' => e = .returned (.bool false) ∧ ((w.alloc (.cells #[.string { data := #[] }, .int .i64 0, .int .u64 0, .int .u64 0, .int .u64 0, .int .u64 0, .slice none 0 0, .int .i64 0, .int .i64 0] 58)).alloc (.cells #[.int .i64 0, .int .i64 0] 26)) = w') from may_go 58 false _ (by decide))
      rcases Nat.lt_or_ge k 32 with h32 | h32
      · have hm32 : ((k : Int) == 32) = false := by rw [beq_eq_false_iff_ne]; omega
        by_cases hc2 : cap = k + 1
        · have he : bs.length = k + 1 := by omega
          subst hc2
          rw [he] at HP
          simp only [Nat.sub_self] at HP
          go_wp2_with (first | (go_at_call 37; refine HC2.out.mono ?_; rintro e w' ⟨rfl, rfl⟩) | (go_at_call 38; refine HH.out.mono ?_; rintro e w' ⟨rfl, rfl⟩))
          refine (HP.out _ (BytesAt.void (by rw [Hdl.out]; omega))).mono ?_
          rintro e w4 ⟨rfl, hb4⟩
          have hX4 := HX2.out.2.1.below hb4 HX2.out.2.1.lt
          have hE4 := HX2.out.2.2.below hb4 HX2.out.2.2.lt
          have hB4 := HX2.out.1.trans (hb4.mono HX2.out.1.size)
          have hlt0 : w.heap.size < w4.heap.size := hX4.lt
          have hlt1 : w.heap.size + 1 < w4.heap.size := hE4.lt
          have hX5 := (hX4.alloc (.cells #[.int .i64 0, .int .u64 0, .int .u64 0, .int .u64 0, .int .u64 0, .slice none 0 0, .int .i64 0, .int .i64 0] 39)).alloc (.cells #[.int .i64 kk, .int .i64 q] 26)
          have hE5 := (hE4.alloc (.cells #[.int .i64 0, .int .u64 0, .int .u64 0, .int .u64 0, .int .u64 0, .slice none 0 0, .int .i64 0, .int .i64 0] 39)).alloc (.cells #[.int .i64 kk, .int .i64 q] 26)
          have hT5 : Blk ((w4.alloc (.cells #[.int .i64 0, .int .u64 0, .int .u64 0, .int .u64 0, .int .u64 0, .slice none 0 0, .int .i64 0, .int .i64 0] 39)).alloc (.cells #[.int .i64 kk, .int .i64 q] 26)) (w4.heap.size + 1) 26 #[.int .i64 kk, .int .i64 q] := Blk.new_at (by simp)
          have hB5 : Below w.heap.size w ((w4.alloc (.cells #[.int .i64 0, .int .u64 0, .int .u64 0, .int .u64 0, .int .u64 0, .slice none 0 0, .int .i64 0, .int .i64 0] 39)).alloc (.cells #[.int .i64 kk, .int .i64 q] 26)) := (hB4.alloc (by omega) _).alloc (by simp; omega) _
          have HX5 := Lib.hid (show _ ∧ _ ∧ _ ∧ _ from ⟨hB5, hX5, hE5, hT5⟩)
          clear hX4 hE4 hB4 hX5 hE5 hT5 hB5 hb4 hcs hstr HX2 HP HC2 HH
          unfold zeroN
          dsimp only
          go_upto_region 14 with (fail)
          generalize hW5 : (w4.alloc (.cells #[.int .i64 0, .int .u64 0, .int .u64 0, .int .u64 0, .int .u64 0, .slice none 0 0, .int .i64 0, .int .i64 0] 39)).alloc (.cells #[.int .i64 kk, .int .i64 q] 26) = W5 at *
          clear hW5
          have hX5 := HX5.out.2.1
          have x0 := hX5.cell 0
          have x1 := hX5.cell 1
          have x2 := hX5.cell 2
          have x3 := hX5.cell 3
          have x4 := hX5.cell 4
          have x5 := hX5.cell 5
          have x6 := hX5.cell 6
          have x7 := hX5.cell 7
          have x8 := hX5.cell 8
          have y0 := hX5.frozen 0
          have y1 := hX5.frozen 1
          have y2 := hX5.frozen 2
          have y3 := hX5.frozen 3
          have y4 := hX5.frozen 4
          have y5 := hX5.frozen 5
          have y6 := hX5.frozen 6
          have y7 := hX5.frozen 7
          have y8 := hX5.frozen 8
          obtain ⟨e0, e1, f0, f1⟩ := HX5.out.2.2.1.c2
          obtain ⟨t0, t1, _, _⟩ := HX5.out.2.2.2.c2
          clear hX5
          have hne0 : w4.heap.size + 1 ≠ w.heap.size := by omega
          have hne1 : w4.heap.size + 1 ≠ w.heap.size + 1 := by omega
          have hw1 : IntKind.i64.wrap (q + (k : Int)) = q + k := by rw [IntKind.wrap_i64]; omega
          have hw2 : IntKind.i64.wrap (q + (k : Int) + 1) = q + k + 1 := by rw [IntKind.wrap_i64]; omega
          go_wp2
          go_region
          all_goals go_wp2
          all_goals go_light
          all_goals refine bodyPost_ret (ret_rule Tryz.results17 rfl rfl (((HX5.out.2.1.put9 _ _ _ _ _ _ _ _ _).far2 (by omega) _ _).drew) ((((HX5.out.2.2.1.past9 (by omega) _ _ _ _ _ _ _ _ _).set2)).drew)) rfl ?_
          all_goals unfold RLineOut
          all_goals rw [HV.out]
          all_goals exact ⟨rfl, (below_set2 (below_put9 HX5.out.1 (Nat.le_refl _) _ _ _ _ _ _ _ _ _) (by omega) _ _).drew⟩
        · go_wp2_with (first | (go_at_call 37; refine HC2.out.mono ?_; rintro e w' ⟨rfl, rfl⟩) | (go_at_call 38; refine HH.out.mono ?_; rintro e w' ⟨rfl, rfl⟩))
          refine (HP.out _ ((HA.out.tail _).more (by simp; omega))).mono ?_
          rintro e w4 ⟨rfl, hb4⟩
          have hX4 := HX2.out.2.1.below hb4 HX2.out.2.1.lt
          have hE4 := HX2.out.2.2.below hb4 HX2.out.2.2.lt
          have hB4 := HX2.out.1.trans (hb4.mono HX2.out.1.size)
          have hlt0 : w.heap.size < w4.heap.size := hX4.lt
          have hlt1 : w.heap.size + 1 < w4.heap.size := hE4.lt
          have hX5 := (hX4.alloc (.cells #[.int .i64 0, .int .u64 0, .int .u64 0, .int .u64 0, .int .u64 0, .slice none 0 0, .int .i64 0, .int .i64 0] 39)).alloc (.cells #[.int .i64 kk, .int .i64 q] 26)
          have hE5 := (hE4.alloc (.cells #[.int .i64 0, .int .u64 0, .int .u64 0, .int .u64 0, .int .u64 0, .slice none 0 0, .int .i64 0, .int .i64 0] 39)).alloc (.cells #[.int .i64 kk, .int .i64 q] 26)
          have hT5 : Blk ((w4.alloc (.cells #[.int .i64 0, .int .u64 0, .int .u64 0, .int .u64 0, .int .u64 0, .slice none 0 0, .int .i64 0, .int .i64 0] 39)).alloc (.cells #[.int .i64 kk, .int .i64 q] 26)) (w4.heap.size + 1) 26 #[.int .i64 kk, .int .i64 q] := Blk.new_at (by simp)
          have hB5 : Below w.heap.size w ((w4.alloc (.cells #[.int .i64 0, .int .u64 0, .int .u64 0, .int .u64 0, .int .u64 0, .slice none 0 0, .int .i64 0, .int .i64 0] 39)).alloc (.cells #[.int .i64 kk, .int .i64 q] 26)) := (hB4.alloc (by omega) _).alloc (by simp; omega) _
          have HX5 := Lib.hid (show _ ∧ _ ∧ _ ∧ _ from ⟨hB5, hX5, hE5, hT5⟩)
          clear hX4 hE4 hB4 hX5 hE5 hT5 hB5 hb4 hcs hstr HX2 HP HC2 HH
          unfold zeroN
          dsimp only
          go_upto_region 14 with (fail)
          generalize hW5 : (w4.alloc (.cells #[.int .i64 0, .int .u64 0, .int .u64 0, .int .u64 0, .int .u64 0, .slice none 0 0, .int .i64 0, .int .i64 0] 39)).alloc (.cells #[.int .i64 kk, .int .i64 q] 26) = W5 at *
          clear hW5
          have hX5 := HX5.out.2.1
          have x0 := hX5.cell 0
          have x1 := hX5.cell 1
          have x2 := hX5.cell 2
          have x3 := hX5.cell 3
          have x4 := hX5.cell 4
          have x5 := hX5.cell 5
          have x6 := hX5.cell 6
          have x7 := hX5.cell 7
          have x8 := hX5.cell 8
          have y0 := hX5.frozen 0
          have y1 := hX5.frozen 1
          have y2 := hX5.frozen 2
          have y3 := hX5.frozen 3
          have y4 := hX5.frozen 4
          have y5 := hX5.frozen 5
          have y6 := hX5.frozen 6
          have y7 := hX5.frozen 7
          have y8 := hX5.frozen 8
          obtain ⟨e0, e1, f0, f1⟩ := HX5.out.2.2.1.c2
          obtain ⟨t0, t1, _, _⟩ := HX5.out.2.2.2.c2
          clear hX5
          have hne0 : w4.heap.size + 1 ≠ w.heap.size := by omega
          have hne1 : w4.heap.size + 1 ≠ w.heap.size + 1 := by omega
          have hw1 : IntKind.i64.wrap (q + (k : Int)) = q + k := by rw [IntKind.wrap_i64]; omega
          have hw2 : IntKind.i64.wrap (q + (k : Int) + 1) = q + k + 1 := by rw [IntKind.wrap_i64]; omega
          go_wp2
          go_region
          all_goals go_wp2
          all_goals go_light
          all_goals refine bodyPost_ret (ret_rule Tryz.results17 rfl rfl (((HX5.out.2.1.put9 _ _ _ _ _ _ _ _ _).far2 (by omega) _ _).drew) ((((HX5.out.2.2.1.past9 (by omega) _ _ _ _ _ _ _ _ _).set2)).drew)) rfl ?_
          all_goals unfold RLineOut
          all_goals rw [HV.out]
          all_goals exact ⟨rfl, (below_set2 (below_put9 HX5.out.1 (Nat.le_refl _) _ _ _ _ _ _ _ _ _) (by omega) _ _).drew⟩
      · have hm32 : ((k : Int) == 32) = true := by rw [beq_iff_eq]; omega
        by_cases hc2 : cap = k + 1
        · have he : bs.length = k + 1 := by omega
          subst hc2
          rw [he] at HP
          simp only [Nat.sub_self] at HP
          go_wp2_with (first | (go_at_call 37; refine HC2.out.mono ?_; rintro e w' ⟨rfl, rfl⟩) | (go_at_call 38; refine HH.out.mono ?_; rintro e w' ⟨rfl, rfl⟩))
          refine (HP.out _ (BytesAt.void (by rw [Hdl.out]; omega))).mono ?_
          rintro e w4 ⟨rfl, hb4⟩
          have hX4 := HX2.out.2.1.below hb4 HX2.out.2.1.lt
          have hE4 := HX2.out.2.2.below hb4 HX2.out.2.2.lt
          have hB4 := HX2.out.1.trans (hb4.mono HX2.out.1.size)
          have hlt0 : w.heap.size < w4.heap.size := hX4.lt
          have hlt1 : w.heap.size + 1 < w4.heap.size := hE4.lt
          have hX5 := (hX4.alloc (.cells #[.int .i64 0, .int .u64 0, .int .u64 0, .int .u64 0, .int .u64 0, .slice none 0 0, .int .i64 0, .int .i64 0] 39)).alloc (.cells #[.int .i64 kk, .int .i64 q] 26)
          have hE5 := (hE4.alloc (.cells #[.int .i64 0, .int .u64 0, .int .u64 0, .int .u64 0, .int .u64 0, .slice none 0 0, .int .i64 0, .int .i64 0] 39)).alloc (.cells #[.int .i64 kk, .int .i64 q] 26)
          have hT5 : Blk ((w4.alloc (.cells #[.int .i64 0, .int .u64 0, .int .u64 0, .int .u64 0, .int .u64 0, .slice none 0 0, .int .i64 0, .int .i64 0] 39)).alloc (.cells #[.int .i64 kk, .int .i64 q] 26)) (w4.heap.size + 1) 26 #[.int .i64 kk, .int .i64 q] := Blk.new_at (by simp)
          have hB5 : Below w.heap.size w ((w4.alloc (.cells #[.int .i64 0, .int .u64 0, .int .u64 0, .int .u64 0, .int .u64 0, .slice none 0 0, .int .i64 0, .int .i64 0] 39)).alloc (.cells #[.int .i64 kk, .int .i64 q] 26)) := (hB4.alloc (by omega) _).alloc (by simp; omega) _
          have HX5 := Lib.hid (show _ ∧ _ ∧ _ ∧ _ from ⟨hB5, hX5, hE5, hT5⟩)
          clear hX4 hE4 hB4 hX5 hE5 hT5 hB5 hb4 hcs hstr HX2 HP HC2 HH
          unfold zeroN
          dsimp only
          go_upto_region 14 with (fail)
          generalize hW5 : (w4.alloc (.cells #[.int .i64 0, .int .u64 0, .int .u64 0, .int .u64 0, .int .u64 0, .slice none 0 0, .int .i64 0, .int .i64 0] 39)).alloc (.cells #[.int .i64 kk, .int .i64 q] 26) = W5 at *
          clear hW5
          have hX5 := HX5.out.2.1
          have x0 := hX5.cell 0
          have x1 := hX5.cell 1
          have x2 := hX5.cell 2
          have x3 := hX5.cell 3
          have x4 := hX5.cell 4
          have x5 := hX5.cell 5
          have x6 := hX5.cell 6
          have x7 := hX5.cell 7
          have x8 := hX5.cell 8
          have y0 := hX5.frozen 0
          have y1 := hX5.frozen 1
          have y2 := hX5.frozen 2
          have y3 := hX5.frozen 3
          have y4 := hX5.frozen 4
          have y5 := hX5.frozen 5
          have y6 := hX5.frozen 6
          have y7 := hX5.frozen 7
          have y8 := hX5.frozen 8
          obtain ⟨e0, e1, f0, f1⟩ := HX5.out.2.2.1.c2
          obtain ⟨t0, t1, _, _⟩ := HX5.out.2.2.2.c2
          clear hX5
          have hne0 : w4.heap.size + 1 ≠ w.heap.size := by omega
          have hne1 : w4.heap.size + 1 ≠ w.heap.size + 1 := by omega
          have hw1 : IntKind.i64.wrap (q + (k : Int)) = q + k := by rw [IntKind.wrap_i64]; omega
          have hw2 : IntKind.i64.wrap (q + (k : Int) + 1) = q + k + 1 := by rw [IntKind.wrap_i64]; omega
          go_wp2
          go_region
          all_goals go_wp2
          all_goals go_light
          all_goals refine bodyPost_ret (ret_rule Tryz.results17 rfl rfl (((HX5.out.2.1.put9 _ _ _ _ _ _ _ _ _).far2 (by omega) _ _).drew) ((((HX5.out.2.2.1.past9 (by omega) _ _ _ _ _ _ _ _ _).set2)).drew)) rfl ?_
          all_goals unfold RLineOut
          all_goals rw [HV.out]
          all_goals exact ⟨rfl, (below_set2 (below_put9 HX5.out.1 (Nat.le_refl _) _ _ _ _ _ _ _ _ _) (by omega) _ _).drew⟩
        · go_wp2_with (first | (go_at_call 37; refine HC2.out.mono ?_; rintro e w' ⟨rfl, rfl⟩) | (go_at_call 38; refine HH.out.mono ?_; rintro e w' ⟨rfl, rfl⟩))
          refine (HP.out _ ((HA.out.tail _).more (by simp; omega))).mono ?_
          rintro e w4 ⟨rfl, hb4⟩
          have hX4 := HX2.out.2.1.below hb4 HX2.out.2.1.lt
          have hE4 := HX2.out.2.2.below hb4 HX2.out.2.2.lt
          have hB4 := HX2.out.1.trans (hb4.mono HX2.out.1.size)
          have hlt0 : w.heap.size < w4.heap.size := hX4.lt
          have hlt1 : w.heap.size + 1 < w4.heap.size := hE4.lt
          have hX5 := (hX4.alloc (.cells #[.int .i64 0, .int .u64 0, .int .u64 0, .int .u64 0, .int .u64 0, .slice none 0 0, .int .i64 0, .int .i64 0] 39)).alloc (.cells #[.int .i64 kk, .int .i64 q] 26)
          have hE5 := (hE4.alloc (.cells #[.int .i64 0, .int .u64 0, .int .u64 0, .int .u64 0, .int .u64 0, .slice none 0 0, .int .i64 0, .int .i64 0] 39)).alloc (.cells #[.int .i64 kk, .int .i64 q] 26)
          have hT5 : Blk ((w4.alloc (.cells #[.int .i64 0, .int .u64 0, .int .u64 0, .int .u64 0, .int .u64 0, .slice none 0 0, .int .i64 0, .int .i64 0] 39)).alloc (.cells #[.int .i64 kk, .int .i64 q] 26)) (w4.heap.size + 1) 26 #[.int .i64 kk, .int .i64 q] := Blk.new_at (by simp)
          have hB5 : Below w.heap.size w ((w4.alloc (.cells #[.int .i64 0, .int .u64 0, .int .u64 0, .int .u64 0, .int .u64 0, .slice none 0 0, .int .i64 0, .int .i64 0] 39)).alloc (.cells #[.int .i64 kk, .int .i64 q] 26)) := (hB4.alloc (by omega) _).alloc (by simp; omega) _
          have HX5 := Lib.hid (show _ ∧ _ ∧ _ ∧ _ from ⟨hB5, hX5, hE5, hT5⟩)
          clear hX4 hE4 hB4 hX5 hE5 hT5 hB5 hb4 hcs hstr HX2 HP HC2 HH
          unfold zeroN
          dsimp only
          go_upto_region 14 with (fail)
          generalize hW5 : (w4.alloc (.cells #[.int .i64 0, .int .u64 0, .int .u64 0, .int .u64 0, .int .u64 0, .slice none 0 0, .int .i64 0, .int .i64 0] 39)).alloc (.cells #[.int .i64 kk, .int .i64 q] 26) = W5 at *
          clear hW5
          have hX5 := HX5.out.2.1
          have x0 := hX5.cell 0
          have x1 := hX5.cell 1
          have x2 := hX5.cell 2
          have x3 := hX5.cell 3
          have x4 := hX5.cell 4
          have x5 := hX5.cell 5
          have x6 := hX5.cell 6
          have x7 := hX5.cell 7
          have x8 := hX5.cell 8
          have y0 := hX5.frozen 0
          have y1 := hX5.frozen 1
          have y2 := hX5.frozen 2
          have y3 := hX5.frozen 3
          have y4 := hX5.frozen 4
          have y5 := hX5.frozen 5
          have y6 := hX5.frozen 6
          have y7 := hX5.frozen 7
          have y8 := hX5.frozen 8
          obtain ⟨e0, e1, f0, f1⟩ := HX5.out.2.2.1.c2
          obtain ⟨t0, t1, _, _⟩ := HX5.out.2.2.2.c2
          clear hX5
          have hne0 : w4.heap.size + 1 ≠ w.heap.size := by omega
          have hne1 : w4.heap.size + 1 ≠ w.heap.size + 1 := by omega
          have hw1 : IntKind.i64.wrap (q + (k : Int)) = q + k := by rw [IntKind.wrap_i64]; omega
          have hw2 : IntKind.i64.wrap (q + (k : Int) + 1) = q + k + 1 := by rw [IntKind.wrap_i64]; omega
          go_wp2
          go_region
          all_goals go_wp2
          all_goals go_light
          all_goals refine bodyPost_ret (ret_rule Tryz.results17 rfl rfl (((HX5.out.2.1.put9 _ _ _ _ _ _ _ _ _).far2 (by omega) _ _).drew) ((((HX5.out.2.2.1.past9 (by omega) _ _ _ _ _ _ _ _ _).set2)).drew)) rfl ?_
          all_goals unfold RLineOut
          all_goals rw [HV.out]
          all_goals exact ⟨rfl, (below_set2 (below_put9 HX5.out.1 (Nat.le_refl _) _ _ _ _ _ _ _ _ _) (by omega) _ _).drew⟩

set_option maxHeartbeats 4000000 in
theorem rline_ok (b o : Nat) (Ar : Option Addr) (cap capr : Nat) (rs : List RuleS) (bs : List Nat) (P : Nat → Prop) (w : World) (h64 : rs.length < 64) (hA : BytesAt w w.heap.size (some ⟨b, o, none⟩) bs) (hcap : bs.length ≤ cap) (hR : RulesAt w P rs Ar) (h256 : ∀ r ∈ rs, ∀ c ∈ r.name, c < 256) (h0 : runS bs ≠ 0) (h32 : runS bs ≤ 32) (hlt : runS bs < bs.length) (h58 : byteAt bs (runS bs) = 58) (hc : called rs (bs.take (runS bs)) = false) {x : Nd} (hx : parseS (bs.drop (runS bs + 1)) = .ok x) :
    Calls Tryz.prog 17 #[.slice (some ⟨b, o, none⟩) bs.length cap, .slice Ar rs.length capr] w (RLineOut (lineS rs bs) w) := by
  have hlt' : (bs.take (runS bs)).length = runS bs := by rw [List.length_take]; omega
  have HV := Lib.hid (show lineS rs bs = .ok ⟨bs.take (runS bs), x⟩ by unfold lineS headS; rw [if_neg (by omega), if_neg h0, if_neg (by omega), if_neg (by omega), if_neg (show ¬ (rs.any fun r => decide (r.name = bs.take (runS bs))) = true from fun h => by rw [show (rs.any fun r => decide (r.name = bs.take (runS bs))) = called rs (bs.take (runS bs)) from rfl, hc] at h; cases h)]; dsimp only; rw [hlt', hx])
  have hd00 : ((0 : Int) != 0) = false := by decide
  have hd : decide ((64 : Int) ≤ (rs.length : Int)) = false := by rw [decide_eq_false_iff_not]; omega
  have hB2 : Below w.heap.size w ((w.alloc (.cells #[.string { data := #[] }, .int .i64 0, .int .u64 0, .int .u64 0, .int .u64 0, .int .u64 0, .slice none 0 0, .int .i64 0, .int .i64 0] 58)).alloc (.cells #[.int .i64 0, .int .i64 0] 26)) := ((Below.refl _ _).alloc (Nat.le_refl _) _).alloc (by simp) _
  have hA1 : BytesAt ((w.alloc (.cells #[.string { data := #[] }, .int .i64 0, .int .u64 0, .int .u64 0, .int .u64 0, .int .u64 0, .slice none 0 0, .int .i64 0, .int .i64 0] 58)).alloc (.cells #[.int .i64 0, .int .i64 0] 26)) w.heap.size (some ⟨b, o, none⟩) bs := hA.below hB2
  have hlen := hA.2.1
  have hrl := runS_le bs
  obtain ⟨_, _, e0, _, hcells⟩ := hA1.2.2 (by omega)
  cases e0
  have hstr := str_run _ b o (runS bs) cap bs (by omega) hcells
  have hcs := hcells (runS bs) hlt
  rw [h58] at hcs
  have hcs : (((w.alloc (.cells #[.string { data := #[] }, .int .i64 0, .int .u64 0, .int .u64 0, .int .u64 0, .int .u64 0, .slice none 0 0, .int .i64 0, .int .i64 0] 58)).alloc (.cells #[.int .i64 0, .int .i64 0] 26))).cell? ⟨b, o + runS bs, none⟩ = some (.int .u8 58) := hcs
  have hnm : ∀ c ∈ bs.take (runS bs), c < 256 := fun c hc => hA.1 c (List.mem_of_mem_take hc)
  have HH := Lib.hid (rhas_go Ar capr rs (bs.take (runS bs)) P ((w.alloc (.cells #[.string { data := #[] }, .int .i64 0, .int .u64 0, .int .u64 0, .int .u64 0, .int .u64 0, .slice none 0 0, .int .i64 0, .int .i64 0] 58)).alloc (.cells #[.int .i64 0, .int .i64 0] 26)) (hR.below hB2) (by omega) h256 hnm)
  have HA := Lib.hid hA1
  obtain ⟨m, hm⟩ : ∃ m, m = runS bs := ⟨_, rfl⟩
  have HM := Lib.hid (show m ≤ runS bs ∧ runS bs ≤ bs.length ∧ m ≤ 32 by omega)
  have HN1 := Lib.hid (show m < bs.length → nameAt bs m = false by rw [hm]; exact runS_not)
  have hm0 : ((m : Int) == 0) = false := by rw [beq_eq_false_iff_ne]; omega
  have hmle : m ≤ 32 ∧ m < bs.length := by omega
  have hne : ((m : Int) == ((bs.length : Nat) : Int)) = false := by rw [beq_eq_false_iff_ne]; omega
  rw [← hm] at hstr hcs HH

  have Hdl := Lib.hid (show (bs.drop (m + 1)).length = bs.length - (m + 1) by simp)
  have hP := fun (A' : Option Addr) (hA' : BytesAt ((w.alloc (.cells #[.string { data := #[] }, .int .i64 0, .int .u64 0, .int .u64 0, .int .u64 0, .int .u64 0, .slice none 0 0, .int .i64 0, .int .i64 0] 58)).alloc (.cells #[.int .i64 0, .int .i64 0] 26)) (((w.alloc (.cells #[.string { data := #[] }, .int .i64 0, .int .u64 0, .int .u64 0, .int .u64 0, .int .u64 0, .slice none 0 0, .int .i64 0, .int .i64 0] 58)).alloc (.cells #[.int .i64 0, .int .i64 0] 26))).heap.size A' (bs.drop (m + 1))) => rtext_go07 A' (cap - (m + 1)) (bs.drop (m + 1)) ((w.alloc (.cells #[.string { data := #[] }, .int .i64 0, .int .u64 0, .int .u64 0, .int .u64 0, .int .u64 0, .slice none 0 0, .int .i64 0, .int .i64 0] 58)).alloc (.cells #[.int .i64 0, .int .i64 0] 26)) hA' (by rw [Hdl.out]; omega)
  rw [← hm] at hx
  rw [hx, Hdl.out] at hP
  have HP := Lib.hid hP
  have HX2 := Lib.hid (show _ ∧ _ ∧ _ from ⟨hB2, (show Blk ((w.alloc (.cells #[.string { data := #[] }, .int .i64 0, .int .u64 0, .int .u64 0, .int .u64 0, .int .u64 0, .slice none 0 0, .int .i64 0, .int .i64 0] 58)).alloc (.cells #[.int .i64 0, .int .i64 0] 26)) w.heap.size 58 _ from (Blk.new w 58 #[.string { data := #[] }, .int .i64 0, .int .u64 0, .int .u64 0, .int .u64 0, .int .u64 0, .slice none 0 0, .int .i64 0, .int .i64 0]).alloc _), (show Blk ((w.alloc (.cells #[.string { data := #[] }, .int .i64 0, .int .u64 0, .int .u64 0, .int .u64 0, .int .u64 0, .slice none 0 0, .int .i64 0, .int .i64 0] 58)).alloc (.cells #[.int .i64 0, .int .i64 0] 26)) (w.heap.size + 1) 26 #[.int .i64 0, .int .i64 0] from Blk.new_at (by simp))⟩)

  rw [hm, hc, ← hm] at HH
  rw [← hm] at HV
  clear hA hA1 hB2 hrl hm h0 h32 hc hcells hR hlt h58 hnm h256 hx hP hlt'
  go_enter Tryz.func17, Tryz.ntmps17
  go_wp2
  go_loop [6] (fun i => ∃ k : Nat, k ≤ m ∧ i = .int .i64 (k : Int)) (fun i => m - (intOf i).toNat)
  case atStart => exact ⟨0, Nat.zero_le _, rfl⟩
  case round =>
    obtain ⟨k, hk, rfl⟩ := hrel
    by_cases hlt : k < m
    · have hmx := HM.out
      have hk1 : k < bs.length := by omega
      have hk2 : k < 32 := by omega
      obtain ⟨_, _, e0, hc, hb⟩ := HA.out.one hk1
      cases e0
      have HC := Lib.hid ((may_at bs k (w.alloc (.cells #[.string { data := #[] }, .int .i64 0, .int .u64 0, .int .u64 0, .int .u64 0, .int .u64 0, .slice none 0 0, .int .i64 0, .int .i64 0] 58) |>.alloc (.cells #[.int .i64 0, .int .i64 0] 26)) hb).mono (fun e w' h => by rw [runS_at (show k < runS bs by omega)] at h; exact h))
      clear hmx
      go_wp2_with (refine HC.out.mono ?_; rintro e w' ⟨rfl, rfl⟩)
      go_round
      case rel => exact ⟨k + 1, by omega, by go_num⟩
      case measure => (simp [intOf]; try omega)
    · obtain rfl : k = m := by omega
      obtain ⟨hk32, hkl⟩ := hmle
      have HC2 := Lib.hid (show Calls Tryz.prog 37 #[.int .u8 58, .bool false] ((w.alloc (.cells #[.string { data := #[] }, .int .i64 0, .int .u64 0, .int .u64 0, .int .u64 0, .int .u64 0, .slice none 0 0, .int .i64 0, .int .i64 0] 58)).alloc (.cells #[.int .i64 0, .int .i64 0] 26)) (fun e w' => e = .returned (.bool false) ∧ ((w.alloc (.cells #[.string { data := #[] }, .int .i64 0, .int .u64 0, .int .u64 0, .int .u64 0, .int .u64 0, .slice none 0 0, .int .i64 0, .int .i64 0] 58)).alloc (.cells #[.int .i64 0, .int .i64 0] 26)) = w') from may_go 58 false _ (by decide))
      rcases Nat.lt_or_ge k 32 with h32 | h32
      · have hm32 : ((k : Int) == 32) = false := by rw [beq_eq_false_iff_ne]; omega
        by_cases hc2 : cap = k + 1
        · have he : bs.length = k + 1 := by omega
          subst hc2
          rw [he] at HP
          simp only [Nat.sub_self] at HP
          go_wp2_with (first | (go_at_call 37; refine HC2.out.mono ?_; rintro e w' ⟨rfl, rfl⟩) | (go_at_call 38; refine HH.out.mono ?_; rintro e w' ⟨rfl, rfl⟩))
          refine (HP.out _ (BytesAt.void (by rw [Hdl.out]; omega))).mono ?_
          rintro e w4 ⟨B', cap', rfl, hb4, hc4, ht4⟩
          have hX4 := HX2.out.2.1.below hb4 HX2.out.2.1.lt
          have hE4 := HX2.out.2.2.below hb4 HX2.out.2.2.lt
          have hB4 := HX2.out.1.trans (hb4.mono HX2.out.1.size)
          have hlt0 : w.heap.size < w4.heap.size := hX4.lt
          have hlt1 : w.heap.size + 1 < w4.heap.size := hE4.lt
          have hX5 : Blk ((w4.alloc (.cells #[.int .i64 x.kind, .int .u64 ((word (x.set.testBit) 0 : Nat) : Int), .int .u64 ((word (x.set.testBit) 1 : Nat) : Int), .int .u64 ((word (x.set.testBit) 2 : Nat) : Int), .int .u64 ((word (x.set.testBit) 3 : Nat) : Int), .slice B' x.kids.len cap', .int .i64 x.lo, .int .i64 x.hi] 39)).alloc (.cells #[.int .i64 0, .int .i64 0] 26)) w.heap.size 58 _ := (hX4.alloc _).alloc _
          have hE5 : Blk ((w4.alloc (.cells #[.int .i64 x.kind, .int .u64 ((word (x.set.testBit) 0 : Nat) : Int), .int .u64 ((word (x.set.testBit) 1 : Nat) : Int), .int .u64 ((word (x.set.testBit) 2 : Nat) : Int), .int .u64 ((word (x.set.testBit) 3 : Nat) : Int), .slice B' x.kids.len cap', .int .i64 x.lo, .int .i64 x.hi] 39)).alloc (.cells #[.int .i64 0, .int .i64 0] 26)) (w.heap.size + 1) 26 _ := (hE4.alloc _).alloc _
          have hN5 : Blk ((w4.alloc (.cells #[.int .i64 x.kind, .int .u64 ((word (x.set.testBit) 0 : Nat) : Int), .int .u64 ((word (x.set.testBit) 1 : Nat) : Int), .int .u64 ((word (x.set.testBit) 2 : Nat) : Int), .int .u64 ((word (x.set.testBit) 3 : Nat) : Int), .slice B' x.kids.len cap', .int .i64 x.lo, .int .i64 x.hi] 39)).alloc (.cells #[.int .i64 0, .int .i64 0] 26)) w4.heap.size 39 (ndA x B' cap') := (Blk.new _ _ _).alloc _
          have hT5 : Blk ((w4.alloc (.cells #[.int .i64 x.kind, .int .u64 ((word (x.set.testBit) 0 : Nat) : Int), .int .u64 ((word (x.set.testBit) 1 : Nat) : Int), .int .u64 ((word (x.set.testBit) 2 : Nat) : Int), .int .u64 ((word (x.set.testBit) 3 : Nat) : Int), .slice B' x.kids.len cap', .int .i64 x.lo, .int .i64 x.hi] 39)).alloc (.cells #[.int .i64 0, .int .i64 0] 26)) (w4.heap.size + 1) 26 #[.int .i64 0, .int .i64 0] := Blk.new_at (by simp)
          have hb45 : Below w4.heap.size w4 ((w4.alloc (.cells #[.int .i64 x.kind, .int .u64 ((word (x.set.testBit) 0 : Nat) : Int), .int .u64 ((word (x.set.testBit) 1 : Nat) : Int), .int .u64 ((word (x.set.testBit) 2 : Nat) : Int), .int .u64 ((word (x.set.testBit) 3 : Nat) : Int), .slice B' x.kids.len cap', .int .i64 x.lo, .int .i64 x.hi] 39)).alloc (.cells #[.int .i64 0, .int .i64 0] 26)) := ((Below.refl _ _).alloc (Nat.le_refl _) _).alloc (by simp) _
          have hB5 : Below w.heap.size w ((w4.alloc (.cells #[.int .i64 x.kind, .int .u64 ((word (x.set.testBit) 0 : Nat) : Int), .int .u64 ((word (x.set.testBit) 1 : Nat) : Int), .int .u64 ((word (x.set.testBit) 2 : Nat) : Int), .int .u64 ((word (x.set.testBit) 3 : Nat) : Int), .slice B' x.kids.len cap', .int .i64 x.lo, .int .i64 x.hi] 39)).alloc (.cells #[.int .i64 0, .int .i64 0] 26)) := hB4.trans (hb45.mono (by omega))
          have hR5 := (ht4.below hb45).weak (Q := fun b => w.heap.size + 2 ≤ b) (fun b hb _ => by simpa using hb)
          have HX5 := Lib.hid (show _ ∧ _ ∧ _ ∧ _ ∧ _ ∧ _ from ⟨hB5, hX5, hE5, hN5, hT5, hR5⟩)
          have hcx := Lib.hid hc4
          clear hX4 hE4 hB4 hX5 hE5 hT5 hB5 hb4 hcs hN5 hR5 ht4 hc4 hb45 HX2 HP HC2 HH hstr
          unfold ndV
          unfold ndA at HX5
          dsimp only
          go_upto_region 14 with (fail)
          generalize hW5 : ((w4.alloc (.cells #[.int .i64 x.kind, .int .u64 ((word (x.set.testBit) 0 : Nat) : Int), .int .u64 ((word (x.set.testBit) 1 : Nat) : Int), .int .u64 ((word (x.set.testBit) 2 : Nat) : Int), .int .u64 ((word (x.set.testBit) 3 : Nat) : Int), .slice B' x.kids.len cap', .int .i64 x.lo, .int .i64 x.hi] 39)).alloc (.cells #[.int .i64 0, .int .i64 0] 26)) = W5 at *
          clear hW5
          have hX5 := HX5.out.2.1
          have x0 := hX5.cell 0
          have x1 := hX5.cell 1
          have x2 := hX5.cell 2
          have x3 := hX5.cell 3
          have x4 := hX5.cell 4
          have x5 := hX5.cell 5
          have x6 := hX5.cell 6
          have x7 := hX5.cell 7
          have x8 := hX5.cell 8
          have y0 := hX5.frozen 0
          have y1 := hX5.frozen 1
          have y2 := hX5.frozen 2
          have y3 := hX5.frozen 3
          have y4 := hX5.frozen 4
          have y5 := hX5.frozen 5
          have y6 := hX5.frozen 6
          have y7 := hX5.frozen 7
          have y8 := hX5.frozen 8
          obtain ⟨e0, e1, f0, f1⟩ := HX5.out.2.2.1.c2
          have hN5 := HX5.out.2.2.2.1
          have n0 := hN5.cell 0
          have n1 := hN5.cell 1
          have n2 := hN5.cell 2
          have n3 := hN5.cell 3
          have n4 := hN5.cell 4
          have n5 := hN5.cell 5
          have n6 := hN5.cell 6
          have n7 := hN5.cell 7
          obtain ⟨t0, t1, _, _⟩ := HX5.out.2.2.2.2.1.c2
          clear hX5 hN5
          have hne0 : w4.heap.size + 1 ≠ w.heap.size := by omega
          have hne1 : w4.heap.size + 1 ≠ w.heap.size + 1 := by omega
          have hne2 : w4.heap.size ≠ w.heap.size := by omega
          have hne3 : w4.heap.size ≠ w.heap.size + 1 := by omega
          go_wp2
          go_light
          refine bodyPost_ret (ret_rule Tryz.results17 rfl rfl ((HX5.out.2.1.put9 _ _ _ _ _ _ _ _ _).far2 (by omega) _ _) ((HX5.out.2.2.1.past9 (by omega) _ _ _ _ _ _ _ _ _).set2)) rfl ?_
          unfold RLineOut
          rw [HV.out]
          refine ⟨B', cap', rfl, below_set2 (below_put9 HX5.out.1 (Nat.le_refl _) _ _ _ _ _ _ _ _ _) (by omega) _ _, hcx.out, HX5.out.2.2.2.2.2.keep (fun b' o' (hb : w.heap.size + 2 ≤ b') hl => World.cell?_of_block ((Below.heap_setCell _ _ _ b' (by simp; omega)).trans ((Below.heap_setCell _ _ _ b' (by simp; omega)).trans (heap_put9 (by omega) _ _ _ _ _ _ _ _ _)))) (fun b' (hb : w.heap.size + 2 ≤ b') _ => by omega)⟩
        · go_wp2_with (first | (go_at_call 37; refine HC2.out.mono ?_; rintro e w' ⟨rfl, rfl⟩) | (go_at_call 38; refine HH.out.mono ?_; rintro e w' ⟨rfl, rfl⟩))
          refine (HP.out _ ((HA.out.tail _).more (by simp; omega))).mono ?_
          rintro e w4 ⟨B', cap', rfl, hb4, hc4, ht4⟩
          have hX4 := HX2.out.2.1.below hb4 HX2.out.2.1.lt
          have hE4 := HX2.out.2.2.below hb4 HX2.out.2.2.lt
          have hB4 := HX2.out.1.trans (hb4.mono HX2.out.1.size)
          have hlt0 : w.heap.size < w4.heap.size := hX4.lt
          have hlt1 : w.heap.size + 1 < w4.heap.size := hE4.lt
          have hX5 : Blk ((w4.alloc (.cells #[.int .i64 x.kind, .int .u64 ((word (x.set.testBit) 0 : Nat) : Int), .int .u64 ((word (x.set.testBit) 1 : Nat) : Int), .int .u64 ((word (x.set.testBit) 2 : Nat) : Int), .int .u64 ((word (x.set.testBit) 3 : Nat) : Int), .slice B' x.kids.len cap', .int .i64 x.lo, .int .i64 x.hi] 39)).alloc (.cells #[.int .i64 0, .int .i64 0] 26)) w.heap.size 58 _ := (hX4.alloc _).alloc _
          have hE5 : Blk ((w4.alloc (.cells #[.int .i64 x.kind, .int .u64 ((word (x.set.testBit) 0 : Nat) : Int), .int .u64 ((word (x.set.testBit) 1 : Nat) : Int), .int .u64 ((word (x.set.testBit) 2 : Nat) : Int), .int .u64 ((word (x.set.testBit) 3 : Nat) : Int), .slice B' x.kids.len cap', .int .i64 x.lo, .int .i64 x.hi] 39)).alloc (.cells #[.int .i64 0, .int .i64 0] 26)) (w.heap.size + 1) 26 _ := (hE4.alloc _).alloc _
          have hN5 : Blk ((w4.alloc (.cells #[.int .i64 x.kind, .int .u64 ((word (x.set.testBit) 0 : Nat) : Int), .int .u64 ((word (x.set.testBit) 1 : Nat) : Int), .int .u64 ((word (x.set.testBit) 2 : Nat) : Int), .int .u64 ((word (x.set.testBit) 3 : Nat) : Int), .slice B' x.kids.len cap', .int .i64 x.lo, .int .i64 x.hi] 39)).alloc (.cells #[.int .i64 0, .int .i64 0] 26)) w4.heap.size 39 (ndA x B' cap') := (Blk.new _ _ _).alloc _
          have hT5 : Blk ((w4.alloc (.cells #[.int .i64 x.kind, .int .u64 ((word (x.set.testBit) 0 : Nat) : Int), .int .u64 ((word (x.set.testBit) 1 : Nat) : Int), .int .u64 ((word (x.set.testBit) 2 : Nat) : Int), .int .u64 ((word (x.set.testBit) 3 : Nat) : Int), .slice B' x.kids.len cap', .int .i64 x.lo, .int .i64 x.hi] 39)).alloc (.cells #[.int .i64 0, .int .i64 0] 26)) (w4.heap.size + 1) 26 #[.int .i64 0, .int .i64 0] := Blk.new_at (by simp)
          have hb45 : Below w4.heap.size w4 ((w4.alloc (.cells #[.int .i64 x.kind, .int .u64 ((word (x.set.testBit) 0 : Nat) : Int), .int .u64 ((word (x.set.testBit) 1 : Nat) : Int), .int .u64 ((word (x.set.testBit) 2 : Nat) : Int), .int .u64 ((word (x.set.testBit) 3 : Nat) : Int), .slice B' x.kids.len cap', .int .i64 x.lo, .int .i64 x.hi] 39)).alloc (.cells #[.int .i64 0, .int .i64 0] 26)) := ((Below.refl _ _).alloc (Nat.le_refl _) _).alloc (by simp) _
          have hB5 : Below w.heap.size w ((w4.alloc (.cells #[.int .i64 x.kind, .int .u64 ((word (x.set.testBit) 0 : Nat) : Int), .int .u64 ((word (x.set.testBit) 1 : Nat) : Int), .int .u64 ((word (x.set.testBit) 2 : Nat) : Int), .int .u64 ((word (x.set.testBit) 3 : Nat) : Int), .slice B' x.kids.len cap', .int .i64 x.lo, .int .i64 x.hi] 39)).alloc (.cells #[.int .i64 0, .int .i64 0] 26)) := hB4.trans (hb45.mono (by omega))
          have hR5 := (ht4.below hb45).weak (Q := fun b => w.heap.size + 2 ≤ b) (fun b hb _ => by simpa using hb)
          have HX5 := Lib.hid (show _ ∧ _ ∧ _ ∧ _ ∧ _ ∧ _ from ⟨hB5, hX5, hE5, hN5, hT5, hR5⟩)
          have hcx := Lib.hid hc4
          clear hX4 hE4 hB4 hX5 hE5 hT5 hB5 hb4 hcs hN5 hR5 ht4 hc4 hb45 HX2 HP HC2 HH hstr
          unfold ndV
          unfold ndA at HX5
          dsimp only
          go_upto_region 14 with (fail)
          generalize hW5 : ((w4.alloc (.cells #[.int .i64 x.kind, .int .u64 ((word (x.set.testBit) 0 : Nat) : Int), .int .u64 ((word (x.set.testBit) 1 : Nat) : Int), .int .u64 ((word (x.set.testBit) 2 : Nat) : Int), .int .u64 ((word (x.set.testBit) 3 : Nat) : Int), .slice B' x.kids.len cap', .int .i64 x.lo, .int .i64 x.hi] 39)).alloc (.cells #[.int .i64 0, .int .i64 0] 26)) = W5 at *
          clear hW5
          have hX5 := HX5.out.2.1
          have x0 := hX5.cell 0
          have x1 := hX5.cell 1
          have x2 := hX5.cell 2
          have x3 := hX5.cell 3
          have x4 := hX5.cell 4
          have x5 := hX5.cell 5
          have x6 := hX5.cell 6
          have x7 := hX5.cell 7
          have x8 := hX5.cell 8
          have y0 := hX5.frozen 0
          have y1 := hX5.frozen 1
          have y2 := hX5.frozen 2
          have y3 := hX5.frozen 3
          have y4 := hX5.frozen 4
          have y5 := hX5.frozen 5
          have y6 := hX5.frozen 6
          have y7 := hX5.frozen 7
          have y8 := hX5.frozen 8
          obtain ⟨e0, e1, f0, f1⟩ := HX5.out.2.2.1.c2
          have hN5 := HX5.out.2.2.2.1
          have n0 := hN5.cell 0
          have n1 := hN5.cell 1
          have n2 := hN5.cell 2
          have n3 := hN5.cell 3
          have n4 := hN5.cell 4
          have n5 := hN5.cell 5
          have n6 := hN5.cell 6
          have n7 := hN5.cell 7
          obtain ⟨t0, t1, _, _⟩ := HX5.out.2.2.2.2.1.c2
          clear hX5 hN5
          have hne0 : w4.heap.size + 1 ≠ w.heap.size := by omega
          have hne1 : w4.heap.size + 1 ≠ w.heap.size + 1 := by omega
          have hne2 : w4.heap.size ≠ w.heap.size := by omega
          have hne3 : w4.heap.size ≠ w.heap.size + 1 := by omega
          go_wp2
          go_light
          refine bodyPost_ret (ret_rule Tryz.results17 rfl rfl ((HX5.out.2.1.put9 _ _ _ _ _ _ _ _ _).far2 (by omega) _ _) ((HX5.out.2.2.1.past9 (by omega) _ _ _ _ _ _ _ _ _).set2)) rfl ?_
          unfold RLineOut
          rw [HV.out]
          refine ⟨B', cap', rfl, below_set2 (below_put9 HX5.out.1 (Nat.le_refl _) _ _ _ _ _ _ _ _ _) (by omega) _ _, hcx.out, HX5.out.2.2.2.2.2.keep (fun b' o' (hb : w.heap.size + 2 ≤ b') hl => World.cell?_of_block ((Below.heap_setCell _ _ _ b' (by simp; omega)).trans ((Below.heap_setCell _ _ _ b' (by simp; omega)).trans (heap_put9 (by omega) _ _ _ _ _ _ _ _ _)))) (fun b' (hb : w.heap.size + 2 ≤ b') _ => by omega)⟩
      · have hm32 : ((k : Int) == 32) = true := by rw [beq_iff_eq]; omega
        by_cases hc2 : cap = k + 1
        · have he : bs.length = k + 1 := by omega
          subst hc2
          rw [he] at HP
          simp only [Nat.sub_self] at HP
          go_wp2_with (first | (go_at_call 37; refine HC2.out.mono ?_; rintro e w' ⟨rfl, rfl⟩) | (go_at_call 38; refine HH.out.mono ?_; rintro e w' ⟨rfl, rfl⟩))
          refine (HP.out _ (BytesAt.void (by rw [Hdl.out]; omega))).mono ?_
          rintro e w4 ⟨B', cap', rfl, hb4, hc4, ht4⟩
          have hX4 := HX2.out.2.1.below hb4 HX2.out.2.1.lt
          have hE4 := HX2.out.2.2.below hb4 HX2.out.2.2.lt
          have hB4 := HX2.out.1.trans (hb4.mono HX2.out.1.size)
          have hlt0 : w.heap.size < w4.heap.size := hX4.lt
          have hlt1 : w.heap.size + 1 < w4.heap.size := hE4.lt
          have hX5 : Blk ((w4.alloc (.cells #[.int .i64 x.kind, .int .u64 ((word (x.set.testBit) 0 : Nat) : Int), .int .u64 ((word (x.set.testBit) 1 : Nat) : Int), .int .u64 ((word (x.set.testBit) 2 : Nat) : Int), .int .u64 ((word (x.set.testBit) 3 : Nat) : Int), .slice B' x.kids.len cap', .int .i64 x.lo, .int .i64 x.hi] 39)).alloc (.cells #[.int .i64 0, .int .i64 0] 26)) w.heap.size 58 _ := (hX4.alloc _).alloc _
          have hE5 : Blk ((w4.alloc (.cells #[.int .i64 x.kind, .int .u64 ((word (x.set.testBit) 0 : Nat) : Int), .int .u64 ((word (x.set.testBit) 1 : Nat) : Int), .int .u64 ((word (x.set.testBit) 2 : Nat) : Int), .int .u64 ((word (x.set.testBit) 3 : Nat) : Int), .slice B' x.kids.len cap', .int .i64 x.lo, .int .i64 x.hi] 39)).alloc (.cells #[.int .i64 0, .int .i64 0] 26)) (w.heap.size + 1) 26 _ := (hE4.alloc _).alloc _
          have hN5 : Blk ((w4.alloc (.cells #[.int .i64 x.kind, .int .u64 ((word (x.set.testBit) 0 : Nat) : Int), .int .u64 ((word (x.set.testBit) 1 : Nat) : Int), .int .u64 ((word (x.set.testBit) 2 : Nat) : Int), .int .u64 ((word (x.set.testBit) 3 : Nat) : Int), .slice B' x.kids.len cap', .int .i64 x.lo, .int .i64 x.hi] 39)).alloc (.cells #[.int .i64 0, .int .i64 0] 26)) w4.heap.size 39 (ndA x B' cap') := (Blk.new _ _ _).alloc _
          have hT5 : Blk ((w4.alloc (.cells #[.int .i64 x.kind, .int .u64 ((word (x.set.testBit) 0 : Nat) : Int), .int .u64 ((word (x.set.testBit) 1 : Nat) : Int), .int .u64 ((word (x.set.testBit) 2 : Nat) : Int), .int .u64 ((word (x.set.testBit) 3 : Nat) : Int), .slice B' x.kids.len cap', .int .i64 x.lo, .int .i64 x.hi] 39)).alloc (.cells #[.int .i64 0, .int .i64 0] 26)) (w4.heap.size + 1) 26 #[.int .i64 0, .int .i64 0] := Blk.new_at (by simp)
          have hb45 : Below w4.heap.size w4 ((w4.alloc (.cells #[.int .i64 x.kind, .int .u64 ((word (x.set.testBit) 0 : Nat) : Int), .int .u64 ((word (x.set.testBit) 1 : Nat) : Int), .int .u64 ((word (x.set.testBit) 2 : Nat) : Int), .int .u64 ((word (x.set.testBit) 3 : Nat) : Int), .slice B' x.kids.len cap', .int .i64 x.lo, .int .i64 x.hi] 39)).alloc (.cells #[.int .i64 0, .int .i64 0] 26)) := ((Below.refl _ _).alloc (Nat.le_refl _) _).alloc (by simp) _
          have hB5 : Below w.heap.size w ((w4.alloc (.cells #[.int .i64 x.kind, .int .u64 ((word (x.set.testBit) 0 : Nat) : Int), .int .u64 ((word (x.set.testBit) 1 : Nat) : Int), .int .u64 ((word (x.set.testBit) 2 : Nat) : Int), .int .u64 ((word (x.set.testBit) 3 : Nat) : Int), .slice B' x.kids.len cap', .int .i64 x.lo, .int .i64 x.hi] 39)).alloc (.cells #[.int .i64 0, .int .i64 0] 26)) := hB4.trans (hb45.mono (by omega))
          have hR5 := (ht4.below hb45).weak (Q := fun b => w.heap.size + 2 ≤ b) (fun b hb _ => by simpa using hb)
          have HX5 := Lib.hid (show _ ∧ _ ∧ _ ∧ _ ∧ _ ∧ _ from ⟨hB5, hX5, hE5, hN5, hT5, hR5⟩)
          have hcx := Lib.hid hc4
          clear hX4 hE4 hB4 hX5 hE5 hT5 hB5 hb4 hcs hN5 hR5 ht4 hc4 hb45 HX2 HP HC2 HH hstr
          unfold ndV
          unfold ndA at HX5
          dsimp only
          go_upto_region 14 with (fail)
          generalize hW5 : ((w4.alloc (.cells #[.int .i64 x.kind, .int .u64 ((word (x.set.testBit) 0 : Nat) : Int), .int .u64 ((word (x.set.testBit) 1 : Nat) : Int), .int .u64 ((word (x.set.testBit) 2 : Nat) : Int), .int .u64 ((word (x.set.testBit) 3 : Nat) : Int), .slice B' x.kids.len cap', .int .i64 x.lo, .int .i64 x.hi] 39)).alloc (.cells #[.int .i64 0, .int .i64 0] 26)) = W5 at *
          clear hW5
          have hX5 := HX5.out.2.1
          have x0 := hX5.cell 0
          have x1 := hX5.cell 1
          have x2 := hX5.cell 2
          have x3 := hX5.cell 3
          have x4 := hX5.cell 4
          have x5 := hX5.cell 5
          have x6 := hX5.cell 6
          have x7 := hX5.cell 7
          have x8 := hX5.cell 8
          have y0 := hX5.frozen 0
          have y1 := hX5.frozen 1
          have y2 := hX5.frozen 2
          have y3 := hX5.frozen 3
          have y4 := hX5.frozen 4
          have y5 := hX5.frozen 5
          have y6 := hX5.frozen 6
          have y7 := hX5.frozen 7
          have y8 := hX5.frozen 8
          obtain ⟨e0, e1, f0, f1⟩ := HX5.out.2.2.1.c2
          have hN5 := HX5.out.2.2.2.1
          have n0 := hN5.cell 0
          have n1 := hN5.cell 1
          have n2 := hN5.cell 2
          have n3 := hN5.cell 3
          have n4 := hN5.cell 4
          have n5 := hN5.cell 5
          have n6 := hN5.cell 6
          have n7 := hN5.cell 7
          obtain ⟨t0, t1, _, _⟩ := HX5.out.2.2.2.2.1.c2
          clear hX5 hN5
          have hne0 : w4.heap.size + 1 ≠ w.heap.size := by omega
          have hne1 : w4.heap.size + 1 ≠ w.heap.size + 1 := by omega
          have hne2 : w4.heap.size ≠ w.heap.size := by omega
          have hne3 : w4.heap.size ≠ w.heap.size + 1 := by omega
          go_wp2
          go_light
          refine bodyPost_ret (ret_rule Tryz.results17 rfl rfl ((HX5.out.2.1.put9 _ _ _ _ _ _ _ _ _).far2 (by omega) _ _) ((HX5.out.2.2.1.past9 (by omega) _ _ _ _ _ _ _ _ _).set2)) rfl ?_
          unfold RLineOut
          rw [HV.out]
          refine ⟨B', cap', rfl, below_set2 (below_put9 HX5.out.1 (Nat.le_refl _) _ _ _ _ _ _ _ _ _) (by omega) _ _, hcx.out, HX5.out.2.2.2.2.2.keep (fun b' o' (hb : w.heap.size + 2 ≤ b') hl => World.cell?_of_block ((Below.heap_setCell _ _ _ b' (by simp; omega)).trans ((Below.heap_setCell _ _ _ b' (by simp; omega)).trans (heap_put9 (by omega) _ _ _ _ _ _ _ _ _)))) (fun b' (hb : w.heap.size + 2 ≤ b') _ => by omega)⟩
        · go_wp2_with (first | (go_at_call 37; refine HC2.out.mono ?_; rintro e w' ⟨rfl, rfl⟩) | (go_at_call 38; refine HH.out.mono ?_; rintro e w' ⟨rfl, rfl⟩))
          refine (HP.out _ ((HA.out.tail _).more (by simp; omega))).mono ?_
          rintro e w4 ⟨B', cap', rfl, hb4, hc4, ht4⟩
          have hX4 := HX2.out.2.1.below hb4 HX2.out.2.1.lt
          have hE4 := HX2.out.2.2.below hb4 HX2.out.2.2.lt
          have hB4 := HX2.out.1.trans (hb4.mono HX2.out.1.size)
          have hlt0 : w.heap.size < w4.heap.size := hX4.lt
          have hlt1 : w.heap.size + 1 < w4.heap.size := hE4.lt
          have hX5 : Blk ((w4.alloc (.cells #[.int .i64 x.kind, .int .u64 ((word (x.set.testBit) 0 : Nat) : Int), .int .u64 ((word (x.set.testBit) 1 : Nat) : Int), .int .u64 ((word (x.set.testBit) 2 : Nat) : Int), .int .u64 ((word (x.set.testBit) 3 : Nat) : Int), .slice B' x.kids.len cap', .int .i64 x.lo, .int .i64 x.hi] 39)).alloc (.cells #[.int .i64 0, .int .i64 0] 26)) w.heap.size 58 _ := (hX4.alloc _).alloc _
          have hE5 : Blk ((w4.alloc (.cells #[.int .i64 x.kind, .int .u64 ((word (x.set.testBit) 0 : Nat) : Int), .int .u64 ((word (x.set.testBit) 1 : Nat) : Int), .int .u64 ((word (x.set.testBit) 2 : Nat) : Int), .int .u64 ((word (x.set.testBit) 3 : Nat) : Int), .slice B' x.kids.len cap', .int .i64 x.lo, .int .i64 x.hi] 39)).alloc (.cells #[.int .i64 0, .int .i64 0] 26)) (w.heap.size + 1) 26 _ := (hE4.alloc _).alloc _
          have hN5 : Blk ((w4.alloc (.cells #[.int .i64 x.kind, .int .u64 ((word (x.set.testBit) 0 : Nat) : Int), .int .u64 ((word (x.set.testBit) 1 : Nat) : Int), .int .u64 ((word (x.set.testBit) 2 : Nat) : Int), .int .u64 ((word (x.set.testBit) 3 : Nat) : Int), .slice B' x.kids.len cap', .int .i64 x.lo, .int .i64 x.hi] 39)).alloc (.cells #[.int .i64 0, .int .i64 0] 26)) w4.heap.size 39 (ndA x B' cap') := (Blk.new _ _ _).alloc _
          have hT5 : Blk ((w4.alloc (.cells #[.int .i64 x.kind, .int .u64 ((word (x.set.testBit) 0 : Nat) : Int), .int .u64 ((word (x.set.testBit) 1 : Nat) : Int), .int .u64 ((word (x.set.testBit) 2 : Nat) : Int), .int .u64 ((word (x.set.testBit) 3 : Nat) : Int), .slice B' x.kids.len cap', .int .i64 x.lo, .int .i64 x.hi] 39)).alloc (.cells #[.int .i64 0, .int .i64 0] 26)) (w4.heap.size + 1) 26 #[.int .i64 0, .int .i64 0] := Blk.new_at (by simp)
          have hb45 : Below w4.heap.size w4 ((w4.alloc (.cells #[.int .i64 x.kind, .int .u64 ((word (x.set.testBit) 0 : Nat) : Int), .int .u64 ((word (x.set.testBit) 1 : Nat) : Int), .int .u64 ((word (x.set.testBit) 2 : Nat) : Int), .int .u64 ((word (x.set.testBit) 3 : Nat) : Int), .slice B' x.kids.len cap', .int .i64 x.lo, .int .i64 x.hi] 39)).alloc (.cells #[.int .i64 0, .int .i64 0] 26)) := ((Below.refl _ _).alloc (Nat.le_refl _) _).alloc (by simp) _
          have hB5 : Below w.heap.size w ((w4.alloc (.cells #[.int .i64 x.kind, .int .u64 ((word (x.set.testBit) 0 : Nat) : Int), .int .u64 ((word (x.set.testBit) 1 : Nat) : Int), .int .u64 ((word (x.set.testBit) 2 : Nat) : Int), .int .u64 ((word (x.set.testBit) 3 : Nat) : Int), .slice B' x.kids.len cap', .int .i64 x.lo, .int .i64 x.hi] 39)).alloc (.cells #[.int .i64 0, .int .i64 0] 26)) := hB4.trans (hb45.mono (by omega))
          have hR5 := (ht4.below hb45).weak (Q := fun b => w.heap.size + 2 ≤ b) (fun b hb _ => by simpa using hb)
          have HX5 := Lib.hid (show _ ∧ _ ∧ _ ∧ _ ∧ _ ∧ _ from ⟨hB5, hX5, hE5, hN5, hT5, hR5⟩)
          have hcx := Lib.hid hc4
          clear hX4 hE4 hB4 hX5 hE5 hT5 hB5 hb4 hcs hN5 hR5 ht4 hc4 hb45 HX2 HP HC2 HH hstr
          unfold ndV
          unfold ndA at HX5
          dsimp only
          go_upto_region 14 with (fail)
          generalize hW5 : ((w4.alloc (.cells #[.int .i64 x.kind, .int .u64 ((word (x.set.testBit) 0 : Nat) : Int), .int .u64 ((word (x.set.testBit) 1 : Nat) : Int), .int .u64 ((word (x.set.testBit) 2 : Nat) : Int), .int .u64 ((word (x.set.testBit) 3 : Nat) : Int), .slice B' x.kids.len cap', .int .i64 x.lo, .int .i64 x.hi] 39)).alloc (.cells #[.int .i64 0, .int .i64 0] 26)) = W5 at *
          clear hW5
          have hX5 := HX5.out.2.1
          have x0 := hX5.cell 0
          have x1 := hX5.cell 1
          have x2 := hX5.cell 2
          have x3 := hX5.cell 3
          have x4 := hX5.cell 4
          have x5 := hX5.cell 5
          have x6 := hX5.cell 6
          have x7 := hX5.cell 7
          have x8 := hX5.cell 8
          have y0 := hX5.frozen 0
          have y1 := hX5.frozen 1
          have y2 := hX5.frozen 2
          have y3 := hX5.frozen 3
          have y4 := hX5.frozen 4
          have y5 := hX5.frozen 5
          have y6 := hX5.frozen 6
          have y7 := hX5.frozen 7
          have y8 := hX5.frozen 8
          obtain ⟨e0, e1, f0, f1⟩ := HX5.out.2.2.1.c2
          have hN5 := HX5.out.2.2.2.1
          have n0 := hN5.cell 0
          have n1 := hN5.cell 1
          have n2 := hN5.cell 2
          have n3 := hN5.cell 3
          have n4 := hN5.cell 4
          have n5 := hN5.cell 5
          have n6 := hN5.cell 6
          have n7 := hN5.cell 7
          obtain ⟨t0, t1, _, _⟩ := HX5.out.2.2.2.2.1.c2
          clear hX5 hN5
          have hne0 : w4.heap.size + 1 ≠ w.heap.size := by omega
          have hne1 : w4.heap.size + 1 ≠ w.heap.size + 1 := by omega
          have hne2 : w4.heap.size ≠ w.heap.size := by omega
          have hne3 : w4.heap.size ≠ w.heap.size + 1 := by omega
          go_wp2
          go_light
          refine bodyPost_ret (ret_rule Tryz.results17 rfl rfl ((HX5.out.2.1.put9 _ _ _ _ _ _ _ _ _).far2 (by omega) _ _) ((HX5.out.2.2.1.past9 (by omega) _ _ _ _ _ _ _ _ _).set2)) rfl ?_
          unfold RLineOut
          rw [HV.out]
          refine ⟨B', cap', rfl, below_set2 (below_put9 HX5.out.1 (Nat.le_refl _) _ _ _ _ _ _ _ _ _) (by omega) _ _, hcx.out, HX5.out.2.2.2.2.2.keep (fun b' o' (hb : w.heap.size + 2 ≤ b') hl => World.cell?_of_block ((Below.heap_setCell _ _ _ b' (by simp; omega)).trans ((Below.heap_setCell _ _ _ b' (by simp; omega)).trans (heap_put9 (by omega) _ _ _ _ _ _ _ _ _)))) (fun b' (hb : w.heap.size + 2 ≤ b') _ => by omega)⟩

theorem rline_go (Al : Option Addr) (Ar : Option Addr) (cap capr : Nat) (rs : List RuleS) (bs : List Nat) (P : Nat → Prop) (w : World) (h64 : rs.length ≤ 64) (hA : BytesAt w w.heap.size Al bs) (hcap : bs.length ≤ cap) (hR : RulesAt w P rs Ar) (h256 : ∀ r ∈ rs, ∀ c ∈ r.name, c < 256) :
    Calls Tryz.prog 17 #[.slice Al bs.length cap, .slice Ar rs.length capr] w (RLineOut (lineS rs bs) w) := by
  have hr := runS_le bs
  by_cases h1 : rs.length = 64
  · exact rline_many Al Ar cap capr rs bs w h1
  by_cases h2 : runS bs = 0
  · exact rline_none Al Ar cap capr rs bs w (by omega) hA h2
  by_cases h3 : 32 < runS bs
  · exact rline_long Al Ar cap capr rs bs w (by omega) hA h3
  by_cases h4 : runS bs = bs.length ∨ byteAt bs (runS bs) ≠ 58
  · exact rline_colon Al Ar cap capr rs bs w (by omega) hA h2 (by omega) h4
  · rw [not_or] at h4
    obtain ⟨b, o, rfl, _⟩ := hA.2.2 (by omega)
    have h5 : byteAt bs (runS bs) = 58 := by simpa using h4.2
    cases hc : called rs (bs.take (runS bs))
    · cases hx : parseS (bs.drop (runS bs + 1)) with
      | error e =>
        obtain ⟨k, q⟩ := e
        exact rline_err b o Ar cap capr rs bs P w (by omega) hA hcap hR h256 h2 (by omega) (by omega) h5 hc hx
      | ok x => exact rline_ok b o Ar cap capr rs bs P w (by omega) hA hcap hR h256 h2 (by omega) (by omega) h5 hc hx
    · exact rline_twice b o Ar cap capr rs bs P w (by omega) hA hcap hR h256 h2 (by omega) (by omega) h5 hc

end Go.Proofs.YtajohcknenngnaaGreat
