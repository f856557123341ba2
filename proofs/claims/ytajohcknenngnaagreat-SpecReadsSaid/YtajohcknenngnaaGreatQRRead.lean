/-
  The contract of the reference's Read (chapter 09).
-/
import Derived.Test.YtajohcknenngnaaGreatQRSpecB
import Derived.Test.YtajohcknenngnaaGreatQSpecRead
import Derived.Test.YtajohcknenngnaaGreatQRSplit
namespace Go.Proofs.YtajohcknenngnaaGreat
open Go.RowKit Go.Maps
set_option linter.unusedSimpArgs false
set_option linter.unusedVariables false
set_option maxRecDepth 100000

def RowR (w : World) (n₀ : Nat) (v : Value) (rs : List RuleS) : Prop := ∃ cs, w.ownsRow n₀ 58 9 v rs.length cs ∧ RulesAre w (fun b => n₀ ≤ b ∧ some b ≠ v.ownBlock) rs cs
theorem RowR.below {w w' : World} {n₀ : Nat} {v : Value} {rs : List RuleS} (h : RowR w n₀ v rs) (hb : Below w.heap.size w w') : RowR w' n₀ v rs := by
  obtain ⟨cs, h1, h2⟩ := h
  exact ⟨cs, own_below h1 hb, h2.below hb⟩
theorem RowR.rules {w : World} {n₀ : Nat} {A : Option Addr} {cap : Nat} {rs : List RuleS} (h : RowR w n₀ (.slice A rs.length cap) rs) : rs.length ≤ cap ∧ RulesAt w (fun b => n₀ ≤ b) rs A := by
  obtain ⟨cs, h1, h2⟩ := h
  obtain ⟨A', cap', e, hc, hr⟩ := rules_of (P := fun b => n₀ ≤ b) h1 (h2.keep (fun _ _ _ _ => rfl) (fun b hb _ => hb.1)) (fun g hg => (h1.lt g hg).1)
  cases e
  exact ⟨hc, hr⟩
/-- A row with a rule more. -/
theorem RowR.append {w w' : World} {n₀ H : Nat} {v v' : Value} {rs : List RuleS} {x : RuleS} {cs : List Value} {B : Option Addr} {cap : Nat} (hr : w.ownsRow n₀ 58 9 v rs.length cs) (hs : RulesAre w (fun b => (n₀ ≤ b ∧ some b ≠ v.ownBlock) ∧ b < H) rs cs) (hc : x.body.kids.len ≤ cap) (ht : TreesAt w (fun b => (n₀ ≤ b ∧ some b ≠ v.ownBlock) ∧ b < H) x.body.kids B)
    (hown : w'.ownsRow n₀ 58 9 v' (rs.length + 1) (cs ++ ruleCell x B cap)) (hg : w.grownBy w' v.ownBlock) (hat : ∀ g, v'.ownBlock = some g → v.ownBlock = some g ∨ H ≤ g) : RowR w' n₀ v' (rs ++ [x]) := by
  have hk : ∀ b o, ((n₀ ≤ b ∧ some b ≠ v.ownBlock) ∧ b < H) → b < w.heap.size → w'.cell? ⟨b, o, none⟩ = w.cell? ⟨b, o, none⟩ := fun b o hb hl => World.cell?_of_block (hg.block b hl hb.1.2)
  have hQ : ∀ b, ((n₀ ≤ b ∧ some b ≠ v.ownBlock) ∧ b < H) → b < w.heap.size → n₀ ≤ b ∧ some b ≠ v'.ownBlock := fun b hb _ => ⟨hb.1.1, fun e => by
    rcases hat b e.symm with h | h
    · exact hb.1.2 h.symm
    · omega⟩
  exact ⟨cs ++ ruleCell x B cap, by simpa using hown, RulesAre.snoc hc (ht.keep hk hQ) (hs.keep hk hQ)⟩
theorem mem_tw {p : Nat → Bool} : ∀ (l : List Nat) (x : Nat), x ∈ l.takeWhile p → p x = true
  | [], x, h => by simp at h
  | y :: l, x, h => by
    rw [List.takeWhile_cons] at h
    split at h
    · rename_i hp
      rcases List.mem_cons.1 h with rfl | h
      · exact hp
      · exact mem_tw l x h
    · simp at h
theorem line_end10 (bs : List Nat) (i : Nat) (h : i ≤ bs.length) : (∀ j, j < (lineAt bs i).length → byteAt bs (i + j) ≠ 10) ∧ (i + (lineAt bs i).length = bs.length ∨ byteAt bs (i + (lineAt bs i).length) = 10) := by
  refine ⟨fun j hj => ?_, ?_⟩
  · rw [← lineAt_byte hj, ← byteAt_get hj]
    have := mem_tw (bs.drop i) _ (List.getElem_mem hj)
    simpa using this
  · have hl := lineAt_len bs i
    rcases Nat.lt_or_ge (i + (lineAt bs i).length) bs.length with h1 | h1
    · right
      rcases Decidable.em (byteAt bs (i + (lineAt bs i).length) = 10) with h2 | h2
      · exact h2
      · have hd : (lineAt bs i).length < (bs.drop i).length := by rw [List.length_drop]; omega
        have := takeWhile_more (p := fun c => !(c == 10)) (bs.drop i) (lineAt bs i).length (Nat.le_refl _) hd (by
          rw [byteAt_get hd, byteAt_drop]
          simpa using h2)
        have e : ((bs.drop i).takeWhile (fun c => !(c == 10))).length = (lineAt bs i).length := rfl
        omega
    · left; omega
theorem info_rule2 : (Tryz.prog.info? 58).map (fun i => (i.zero, i.size, i.bytes)) = some (some (.agg #[.string (strOf []), .int .i64 0, .int .u64 0, .int .u64 0, .int .u64 0, .int .u64 0, .slice none 0 0, .int .i64 0, .int .i64 0]), 9, 96) := by kernel_rfl
set_option maxHeartbeats 1000000 in
theorem rread_long (A : Option Addr) (cap : Nat) (bs : List Nat) (w : World) (hlen : 65536 < bs.length) (hmax : bs.length ≤ 140737488355328) :
    Calls Tryz.prog 6 #[.slice A bs.length cap] w (RulesOut (rulesS bs) w) := by
  have HV := Lib.hid (rulesS_long hlen)
  go_enter Tryz.func6, Tryz.ntmps6
  go_wp2
  go_light
  refine bodyPost_ret (ret_split (c := .slice none 0 0) Tryz.results6 rfl rfl (Blk.new w 26 #[.int .i64 4, .int .i64 65536])) rfl ?_
  unfold RulesOut
  rw [HV.out]
  exact ⟨rfl, (Below.refl w.heap.size w).alloc (Nat.le_refl _) _⟩
set_option maxHeartbeats 4000000 in
theorem rread_in (A : Option Addr) (cap : Nat) (bs : List Nat) (w : World) (hA : BytesAt w w.heap.size A bs) (hcap : bs.length ≤ cap) (hlen : bs.length ≤ 65536) :
    Calls Tryz.prog 6 #[.slice A bs.length cap] w (RulesOut (rulesS bs) w) := by
  obtain ⟨i0, hir, hzr0, hzr1, hzr2⟩ := info_parts info_rule2
  have hl := hA.2.1
  have hb256 := hA.1
  have hd : decide ((65536 : Int) < (bs.length : Int)) = false := by simp; omega
  have HA := Lib.hid hA
  have Hlen := Lib.hid (rulesS_go hlen)
  clear hA
  go_enter Tryz.func6, Tryz.ntmps6
  go_wp2
  go_loopw [4, 5] (fun v4 v5 wr => ∃ (i : Nat) (rs : List RuleS) (Ar : Option Addr) (capr : Nat), v5 = .int .i64 (i : Int) ∧ v4 = .slice Ar rs.length capr ∧ i ≤ bs.length + 1 ∧ rs.length ≤ 64 ∧ Hid (rulesC bs 0 [] = rulesC bs i rs ∧ (∀ r ∈ rs, ∀ c ∈ r.name, c < 256) ∧ RowR wr (w.heap.size + 1) (.slice Ar rs.length capr) rs ∧ Blk wr w.heap.size 26 #[.int .i64 0, .int .i64 0] ∧ Below w.heap.size w wr)) (fun _ v5 _ => bs.length + 1 - (intOf v5).toNat)
  case atStart =>
    refine ⟨0, [], _, _, rfl, rfl, by omega, by simp, Lib.hid ⟨rfl, fun r hr => (by cases hr), ⟨[], ?_, rfl⟩, (Blk.new _ _ _).alloc _, ((Below.refl _ _).alloc (Nat.le_refl _) _).alloc (by simp) _⟩⟩
    have h := World.ownsRow_made (base := w.heap.size + 1) (size := 9) (e := 58) (w.alloc (.cells #[.int .i64 0, .int .i64 0] 26)) #[] 0 (by simp) (by decide) rfl
    rw [World.size_alloc] at h
    exact h
  case round =>
    obtain ⟨i, rs, Ar, capr, rfl, rfl, hi0, h64, HI⟩ := hrel
    by_cases hlt : i < bs.length
    · obtain ⟨b, o, rfl, _, _⟩ := HA.out.2.2 (by omega)
      have HA2 := Lib.hid (HA.out.below HI.out.2.2.2.2)
      have hdl : (i : Int) < (bs.length : Int) := by omega
      have hl10 := line_end10 bs i (by omega)
      have hll := lineAt_len bs i
      obtain ⟨T, hT⟩ : ∃ T, T = i + (lineAt bs i).length := ⟨_, rfl⟩
      have HT := Lib.hid hT
      have HL := Lib.hid hl10
      have HL2 := Lib.hid (show T = bs.length ∨ byteAt bs T = 10 by rw [hT]; exact hl10.2)
      have hiT : i ≤ T := by omega
      have hTn : T ≤ bs.length := by omega
      obtain ⟨_, _, e0, hci, _⟩ := HA2.out.one hlt
      cases e0
      clear hl10 hll
      by_cases h2 : lineAt bs i = [] ∨ byteAt bs i = 35
      · have HV := Lib.hid (HI.out.1.trans (rulesC_pass hlt h2))
        have HV2 := Lib.hid (show rulesC bs 0 [] = rulesC bs (T + 1) rs by rw [HV.out, hT])
        by_cases h3 : lineAt bs i = []
        · have hTi : ¬ ((i : Int) < (T : Int)) := by rw [h3] at hT; simp at hT; omega
          clear h2 h3 hT HV hci
          go_wp2
          go_loop [6] (fun t => ∃ j : Nat, i ≤ j ∧ j ≤ T ∧ t = .int .i64 (j : Int)) (fun t => bs.length + 1 - (intOf t).toNat)
          case atStart => exact ⟨i, Nat.le_refl _, hiT, rfl⟩
          case round =>
            obtain ⟨j, hj1, hj2, rfl⟩ := hrel
            by_cases hjl : j < T
            · skip
              exfalso; omega
            · obtain rfl : j = T := by omega
              rcases HL2.out with hz | hz
              · have hz1 : ¬ ((j : Int) < (bs.length : Int)) := by omega
                clear hz
                exfalso; omega
              · rcases Nat.lt_or_ge j bs.length with hjn | hjn
                · obtain ⟨_, _, e0, hc, _⟩ := HA2.out.one hjn
                  cases e0
                  have h10 : (((byteAt bs j : Nat) : Int) != 10) = false := by rw [hz]; rfl
                  clear hz
                  go_wp2
                  go_roundw
                  case rel => exact ⟨j + 1, rs, Ar, capr, by go_num, rfl, by omega, h64, Lib.hid ⟨HV2.out, HI.out.2⟩⟩
                  all_goals (simp [intOf]; try omega)
                · have hz1 : ¬ ((j : Int) < (bs.length : Int)) := by omega
                  clear hz
                  exfalso; omega
        · have h4 : byteAt bs i = 35 := by rcases h2 with h2 | h2; exact absurd h2 h3; exact h2
          have hlp : 0 < (lineAt bs i).length := List.length_pos_iff.2 h3
          have hTi : (i : Int) < (T : Int) := by omega
          rw [h4] at hci
          have hci : wr.cell? ⟨b, o + i, none⟩ = some (.int .u8 35) := hci
          clear h2 h3 h4 hT HV hlp
          go_wp2
          go_loop [6] (fun t => ∃ j : Nat, i ≤ j ∧ j ≤ T ∧ t = .int .i64 (j : Int)) (fun t => bs.length + 1 - (intOf t).toNat)
          case atStart => exact ⟨i, Nat.le_refl _, hiT, rfl⟩
          case round =>
            obtain ⟨j, hj1, hj2, rfl⟩ := hrel
            by_cases hjl : j < T
            · skip
              have hjn : j < bs.length := by omega
              obtain ⟨_, _, e0, hc, _⟩ := HA2.out.one hjn
              cases e0
              have h10 : (((byteAt bs j : Nat) : Int) != 10) = true := by
                rw [bne_iff_ne]
                have := HL.out.1 (j - i) (by have := HT.out; omega)
                rw [show i + (j - i) = j by omega] at this
                omega
              go_wp2
              go_round
              case rel => exact ⟨j + 1, by omega, by omega, by go_num⟩
              all_goals (simp [intOf]; try omega)
            · obtain rfl : j = T := by omega
              rcases HL2.out with hz | hz
              · have hz1 : ¬ ((j : Int) < (bs.length : Int)) := by omega
                clear hz
                go_wp2
                go_roundw
                case rel => exact ⟨j + 1, rs, Ar, capr, by go_num, rfl, by omega, h64, Lib.hid ⟨HV2.out, HI.out.2⟩⟩
                all_goals (simp [intOf]; try omega)
              · rcases Nat.lt_or_ge j bs.length with hjn | hjn
                · obtain ⟨_, _, e0, hc, _⟩ := HA2.out.one hjn
                  cases e0
                  have h10 : (((byteAt bs j : Nat) : Int) != 10) = false := by rw [hz]; rfl
                  clear hz
                  go_wp2
                  go_roundw
                  case rel => exact ⟨j + 1, rs, Ar, capr, by go_num, rfl, by omega, h64, Lib.hid ⟨HV2.out, HI.out.2⟩⟩
                  all_goals (simp [intOf]; try omega)
                · have hz1 : ¬ ((j : Int) < (bs.length : Int)) := by omega
                  clear hz
                  go_wp2
                  go_roundw
                  case rel => exact ⟨j + 1, rs, Ar, capr, by go_num, rfl, by omega, h64, Lib.hid ⟨HV2.out, HI.out.2⟩⟩
                  all_goals (simp [intOf]; try omega)
      · have h3 : lineAt bs i ≠ [] := fun h => h2 (.inl h)
        have h4 : byteAt bs i ≠ 35 := fun h => h2 (.inr h)
        have hlp : 0 < (lineAt bs i).length := List.length_pos_iff.2 h3
        have hTi : (i : Int) < (T : Int) := by omega
        have h35 : (((byteAt bs i : Nat) : Int) != 35) = true := by rw [bne_iff_ne]; omega
        have hlT : (lineAt bs i).length = T - i := by omega
        have hRR := HI.out.2.2.1.rules
        have hC := rline_go (some ⟨b, o + i, none⟩) Ar (cap - i) capr rs (lineAt bs i) _ wr h64 ((HA2.out.line i).more HI.out.2.2.2.2.size) (by omega) hRR.2 HI.out.2.1
        rw [hlT] at hC
        cases hls : lineS rs (lineAt bs i) with
        | error e =>
          obtain ⟨k, q⟩ := e
          have HV := Lib.hid (HI.out.1.trans (rulesC_bad hlt h2 hls))
          have hkq := lineS_kind (fun c hc => (HA2.out.line i).1 c hc) hls
          have hk : (k != 0) = true := by rw [bne_iff_ne]; exact hkq.1
          obtain ⟨_, hq0, hq1⟩ := hkq
          have hqb : q ≤ 65536 := by omega
          rw [hls] at hC
          have HC := Lib.hid hC
          clear h2 h3 h4 hT hlp hls hC hRR hlT
          go_wp2
          go_loop [6] (fun t => ∃ j : Nat, i ≤ j ∧ j ≤ T ∧ t = .int .i64 (j : Int)) (fun t => bs.length + 1 - (intOf t).toNat)
          case atStart => exact ⟨i, Nat.le_refl _, hiT, rfl⟩
          case round =>
            obtain ⟨j, hj1, hj2, rfl⟩ := hrel
            by_cases hjl : j < T
            · skip
              have hjn : j < bs.length := by omega
              obtain ⟨_, _, e0, hc, _⟩ := HA2.out.one hjn
              cases e0
              have h10 : (((byteAt bs j : Nat) : Int) != 10) = true := by
                rw [bne_iff_ne]
                have := HL.out.1 (j - i) (by have := HT.out; omega)
                rw [show i + (j - i) = j by omega] at this
                omega
              go_wp2
              go_round
              case rel => exact ⟨j + 1, by omega, by omega, by go_num⟩
              all_goals (simp [intOf]; try omega)
            · obtain rfl : j = T := by omega
              rcases HL2.out with hz | hz
              · have hz1 : ¬ ((j : Int) < (bs.length : Int)) := by omega
                clear hz
                go_wp2_with fail
                refine HC.out.mono ?_
                rintro e w1 ⟨rfl, hb1⟩
                have hE1 := HI.out.2.2.2.1.below hb1 HI.out.2.2.2.1.lt
                have hB1 := HI.out.2.2.2.2.trans (hb1.mono HI.out.2.2.2.2.size)
                have hlt0 : w.heap.size < w1.heap.size := hE1.lt
                have hE2 := (hE1.alloc (.cells #[.string { data := #[] }, .int .i64 0, .int .u64 0, .int .u64 0, .int .u64 0, .int .u64 0, .slice none 0 0, .int .i64 0, .int .i64 0] 58)).alloc (.cells #[.int .i64 k, .int .i64 q] 26)
                have hT2 : Blk ((w1.alloc (.cells #[.string { data := #[] }, .int .i64 0, .int .u64 0, .int .u64 0, .int .u64 0, .int .u64 0, .slice none 0 0, .int .i64 0, .int .i64 0] 58)).alloc (.cells #[.int .i64 k, .int .i64 q] 26)) (w1.heap.size + 1) 26 #[.int .i64 k, .int .i64 q] := Blk.new_at (by simp)
                have hB2 : Below w.heap.size w ((w1.alloc (.cells #[.string { data := #[] }, .int .i64 0, .int .u64 0, .int .u64 0, .int .u64 0, .int .u64 0, .slice none 0 0, .int .i64 0, .int .i64 0] 58)).alloc (.cells #[.int .i64 k, .int .i64 q] 26)) := (hB1.alloc (by omega) _).alloc (by simp; omega) _
                have HX2 := Lib.hid (show _ ∧ _ ∧ _ from ⟨hE2, hT2, hB2⟩)
                clear hb1 hE1 hB1 hE2 hT2 hB2 HC HI
                dsimp only
                go_upto_region 11 with (fail)
                generalize hW2 : (w1.alloc (.cells #[.string { data := #[] }, .int .i64 0, .int .u64 0, .int .u64 0, .int .u64 0, .int .u64 0, .slice none 0 0, .int .i64 0, .int .i64 0] 58)).alloc (.cells #[.int .i64 k, .int .i64 q] 26) = W2 at *
                clear hW2
                obtain ⟨r0, r1, e0, e1⟩ := HX2.out.1.c2
                obtain ⟨t0, t1, _, _⟩ := HX2.out.2.1.c2
                have hne0 : w1.heap.size + 1 ≠ w.heap.size := by omega
                have hw1 : IntKind.i64.wrap (q + (i : Int)) = q + i := by rw [IntKind.wrap_i64]; omega
                go_wp2
                go_region
                all_goals go_wp2
                all_goals go_light
                all_goals refine bodyPost_ret (ret_split (c := .slice none 0 0) Tryz.results6 rfl rfl ((HX2.out.1.set2).drew)) rfl ?_
                all_goals unfold RulesOut
                all_goals rw [Hlen.out, HV.out]
                all_goals exact ⟨rfl, (below_set2 HX2.out.2.2 (Nat.le_refl _) _ _).drew⟩
              · rcases Nat.lt_or_ge j bs.length with hjn | hjn
                · obtain ⟨_, _, e0, hc, _⟩ := HA2.out.one hjn
                  cases e0
                  have h10 : (((byteAt bs j : Nat) : Int) != 10) = false := by rw [hz]; rfl
                  clear hz
                  go_wp2_with fail
                  refine HC.out.mono ?_
                  rintro e w1 ⟨rfl, hb1⟩
                  have hE1 := HI.out.2.2.2.1.below hb1 HI.out.2.2.2.1.lt
                  have hB1 := HI.out.2.2.2.2.trans (hb1.mono HI.out.2.2.2.2.size)
                  have hlt0 : w.heap.size < w1.heap.size := hE1.lt
                  have hE2 := (hE1.alloc (.cells #[.string { data := #[] }, .int .i64 0, .int .u64 0, .int .u64 0, .int .u64 0, .int .u64 0, .slice none 0 0, .int .i64 0, .int .i64 0] 58)).alloc (.cells #[.int .i64 k, .int .i64 q] 26)
                  have hT2 : Blk ((w1.alloc (.cells #[.string { data := #[] }, .int .i64 0, .int .u64 0, .int .u64 0, .int .u64 0, .int .u64 0, .slice none 0 0, .int .i64 0, .int .i64 0] 58)).alloc (.cells #[.int .i64 k, .int .i64 q] 26)) (w1.heap.size + 1) 26 #[.int .i64 k, .int .i64 q] := Blk.new_at (by simp)
                  have hB2 : Below w.heap.size w ((w1.alloc (.cells #[.string { data := #[] }, .int .i64 0, .int .u64 0, .int .u64 0, .int .u64 0, .int .u64 0, .slice none 0 0, .int .i64 0, .int .i64 0] 58)).alloc (.cells #[.int .i64 k, .int .i64 q] 26)) := (hB1.alloc (by omega) _).alloc (by simp; omega) _
                  have HX2 := Lib.hid (show _ ∧ _ ∧ _ from ⟨hE2, hT2, hB2⟩)
                  clear hb1 hE1 hB1 hE2 hT2 hB2 HC HI
                  dsimp only
                  go_upto_region 11 with (fail)
                  generalize hW2 : (w1.alloc (.cells #[.string { data := #[] }, .int .i64 0, .int .u64 0, .int .u64 0, .int .u64 0, .int .u64 0, .slice none 0 0, .int .i64 0, .int .i64 0] 58)).alloc (.cells #[.int .i64 k, .int .i64 q] 26) = W2 at *
                  clear hW2
                  obtain ⟨r0, r1, e0, e1⟩ := HX2.out.1.c2
                  obtain ⟨t0, t1, _, _⟩ := HX2.out.2.1.c2
                  have hne0 : w1.heap.size + 1 ≠ w.heap.size := by omega
                  have hw1 : IntKind.i64.wrap (q + (i : Int)) = q + i := by rw [IntKind.wrap_i64]; omega
                  go_wp2
                  go_region
                  all_goals go_wp2
                  all_goals go_light
                  all_goals refine bodyPost_ret (ret_split (c := .slice none 0 0) Tryz.results6 rfl rfl ((HX2.out.1.set2).drew)) rfl ?_
                  all_goals unfold RulesOut
                  all_goals rw [Hlen.out, HV.out]
                  all_goals exact ⟨rfl, (below_set2 HX2.out.2.2 (Nat.le_refl _) _ _).drew⟩
                · have hz1 : ¬ ((j : Int) < (bs.length : Int)) := by omega
                  clear hz
                  go_wp2_with fail
                  refine HC.out.mono ?_
                  rintro e w1 ⟨rfl, hb1⟩
                  have hE1 := HI.out.2.2.2.1.below hb1 HI.out.2.2.2.1.lt
                  have hB1 := HI.out.2.2.2.2.trans (hb1.mono HI.out.2.2.2.2.size)
                  have hlt0 : w.heap.size < w1.heap.size := hE1.lt
                  have hE2 := (hE1.alloc (.cells #[.string { data := #[] }, .int .i64 0, .int .u64 0, .int .u64 0, .int .u64 0, .int .u64 0, .slice none 0 0, .int .i64 0, .int .i64 0] 58)).alloc (.cells #[.int .i64 k, .int .i64 q] 26)
                  have hT2 : Blk ((w1.alloc (.cells #[.string { data := #[] }, .int .i64 0, .int .u64 0, .int .u64 0, .int .u64 0, .int .u64 0, .slice none 0 0, .int .i64 0, .int .i64 0] 58)).alloc (.cells #[.int .i64 k, .int .i64 q] 26)) (w1.heap.size + 1) 26 #[.int .i64 k, .int .i64 q] := Blk.new_at (by simp)
                  have hB2 : Below w.heap.size w ((w1.alloc (.cells #[.string { data := #[] }, .int .i64 0, .int .u64 0, .int .u64 0, .int .u64 0, .int .u64 0, .slice none 0 0, .int .i64 0, .int .i64 0] 58)).alloc (.cells #[.int .i64 k, .int .i64 q] 26)) := (hB1.alloc (by omega) _).alloc (by simp; omega) _
                  have HX2 := Lib.hid (show _ ∧ _ ∧ _ from ⟨hE2, hT2, hB2⟩)
                  clear hb1 hE1 hB1 hE2 hT2 hB2 HC HI
                  dsimp only
                  go_upto_region 11 with (fail)
                  generalize hW2 : (w1.alloc (.cells #[.string { data := #[] }, .int .i64 0, .int .u64 0, .int .u64 0, .int .u64 0, .int .u64 0, .slice none 0 0, .int .i64 0, .int .i64 0] 58)).alloc (.cells #[.int .i64 k, .int .i64 q] 26) = W2 at *
                  clear hW2
                  obtain ⟨r0, r1, e0, e1⟩ := HX2.out.1.c2
                  obtain ⟨t0, t1, _, _⟩ := HX2.out.2.1.c2
                  have hne0 : w1.heap.size + 1 ≠ w.heap.size := by omega
                  have hw1 : IntKind.i64.wrap (q + (i : Int)) = q + i := by rw [IntKind.wrap_i64]; omega
                  go_wp2
                  go_region
                  all_goals go_wp2
                  all_goals go_light
                  all_goals refine bodyPost_ret (ret_split (c := .slice none 0 0) Tryz.results6 rfl rfl ((HX2.out.1.set2).drew)) rfl ?_
                  all_goals unfold RulesOut
                  all_goals rw [Hlen.out, HV.out]
                  all_goals exact ⟨rfl, (below_set2 HX2.out.2.2 (Nat.le_refl _) _ _).drew⟩
        | ok r =>
          have hok := lineS_ok hls
          have h63 := (headS_ok hok.1)
          have hnm : ∀ x ∈ rs ++ [r], ∀ c ∈ x.name, c < 256 := fun x hx => by
            rcases List.mem_append.1 hx with hx | hx
            · exact HI.out.2.1 x hx
            · rw [List.mem_singleton.1 hx, h63.2.1]
              exact fun c hc => (HA2.out.line i).1 c (List.mem_of_mem_take hc)
          have hrl : rs.length ≤ 63 := by omega
          have HNM := Lib.hid hnm
          have HV := Lib.hid (HI.out.1.trans (rulesC_ok hlt h2 hls))
          have HV2 := Lib.hid (show rulesC bs 0 [] = rulesC bs (T + 1) (rs ++ [r]) by rw [HV.out, hT])
          rw [hls] at hC
          have HC := Lib.hid hC
          clear h2 h3 h4 hT hlp hls hC hRR hlT hok h63 hnm HV
          go_wp2
          go_loop [6] (fun t => ∃ j : Nat, i ≤ j ∧ j ≤ T ∧ t = .int .i64 (j : Int)) (fun t => bs.length + 1 - (intOf t).toNat)
          case atStart => exact ⟨i, Nat.le_refl _, hiT, rfl⟩
          case round =>
            obtain ⟨j, hj1, hj2, rfl⟩ := hrel
            by_cases hjl : j < T
            · skip
              have hjn : j < bs.length := by omega
              obtain ⟨_, _, e0, hc, _⟩ := HA2.out.one hjn
              cases e0
              have h10 : (((byteAt bs j : Nat) : Int) != 10) = true := by
                rw [bne_iff_ne]
                have := HL.out.1 (j - i) (by have := HT.out; omega)
                rw [show i + (j - i) = j by omega] at this
                omega
              go_wp2
              go_round
              case rel => exact ⟨j + 1, by omega, by omega, by go_num⟩
              all_goals (simp [intOf]; try omega)
            · obtain rfl : j = T := by omega
              rcases HL2.out with hz | hz
              · have hz1 : ¬ ((j : Int) < (bs.length : Int)) := by omega
                clear hz
                go_wp2_with fail
                refine HC.out.mono ?_
                rintro e w1 ⟨B, capb, rfl, hb1, hcb, htb⟩
                have hE1 := HI.out.2.2.2.1.below hb1 HI.out.2.2.2.1.lt
                have hB1 := HI.out.2.2.2.2.trans (hb1.mono HI.out.2.2.2.2.size)
                have hlt0 : w.heap.size < w1.heap.size := hE1.lt
                have hwr := hb1.size
                have hwr0 := HI.out.2.2.2.2.size
                obtain ⟨cs, hr0, hrs0⟩ := HI.out.2.2.1
                have hro : ∀ g, (Value.slice Ar rs.length capr).ownBlock = some g → g < wr.heap.size := fun g hg => (hr0.lt g hg).2
                have hr1 := own_below hr0 hb1
                have hrs1 : RulesAre w1 (fun b => (w.heap.size + 1 ≤ b ∧ some b ≠ (Value.slice Ar rs.length capr).ownBlock) ∧ b < w1.heap.size) rs cs := (hrs0.keep (w' := wr) (Q := fun b => (w.heap.size + 1 ≤ b ∧ some b ≠ (Value.slice Ar rs.length capr).ownBlock) ∧ b < w1.heap.size) (fun _ _ _ _ => rfl) (fun b hb hl => ⟨hb, by omega⟩)).below hb1
                have htb1 : TreesAt w1 (fun b => (w.heap.size + 1 ≤ b ∧ some b ≠ (Value.slice Ar rs.length capr).ownBlock) ∧ b < w1.heap.size) r.body.kids B := htb.keep (fun _ _ _ _ => rfl) (fun b (hb : wr.heap.size ≤ b) hl => ⟨⟨by have := HI.out.2.2.2.1.lt; omega, fun e => by have := hro b e.symm; omega⟩, hl⟩)
                have HX1 := Lib.hid (show _ ∧ _ ∧ _ ∧ _ ∧ _ ∧ _ from ⟨hE1, hB1, hr1, hrs1, htb1, hcb⟩)
                have hneE := Lib.hid (blk_not_row hE1 (by decide) hr1)
                have h63 : rs.length + 1 ≤ maxLen := Nat.le_trans (show rs.length + 1 ≤ 64 by omega) (by decide)
                have hby : (rs.length + 1) * 96 ≤ 140737488355328 := by omega
                have hN1 : w.heap.size + 1 ≤ w1.heap.size := by omega
                clear hb1 hE1 hB1 hr0 hrs0 hro hr1 hrs1 htb htb1 hcb HC
                unfold ruleCell ndCell
                dsimp only
                go_wp2_with (at_builtin; refine wpList_append_own_at _ rfl _ _ 23 rfl (w.heap.size + 1) 58 i0 _ 9 96 Tryz.underlying23 hir hzr0 hzr1 hzr2 rfl (by decide) (.slice Ar rs.length capr) rs.length cs rfl (((HX1.out.2.2.1.alloc _).alloc _).alloc _) ⟨w1.heap.size + 1 + 1, 0, none⟩ 1 1 (ruleCell r B capb) rfl rfl (World.news_of_block (Blk.new_at (by simp))) (by simp [ruleCell, ndCell, Value.oneCell']) h63 hby (by simp; omega) ?_; intro v' w9 hown' hgrow _ hat; obtain ⟨A9, cap9, rfl⟩ := own_slice hown')
                have Hown9 := Lib.hid hown'
                have Hgrow9 := Lib.hid hgrow
                have Hat9 := Lib.hid hat
                clear hown' hgrow hat
                go_wp2
                go_light
                go_roundw
                case rel =>
                  refine ⟨j + 1, rs ++ [r], A9, cap9, by go_num, by simp, by omega, by simp; omega, Lib.hid ⟨HV2.out, HNM.out, ?_, (((HX1.out.1.alloc _).alloc _).alloc _).grown Hgrow9.out hneE.out, below_grown (below_more (below_more (below_more HX1.out.2.1 _) _) _) Hgrow9.out (((HX1.out.2.2.1.alloc _).alloc _).alloc _) (by omega) (by simp; omega)⟩⟩
                  rw [List.length_append]
                  exact RowR.append (H := w1.heap.size) (((HX1.out.2.2.1.alloc _).alloc _).alloc _) (HX1.out.2.2.2.1.below ((((Below.refl w1.heap.size w1).alloc (Nat.le_refl _) _).alloc (by simp) _).alloc (by simp; omega) _)) HX1.out.2.2.2.2.2 (HX1.out.2.2.2.2.1.below ((((Below.refl w1.heap.size w1).alloc (Nat.le_refl _) _).alloc (by simp) _).alloc (by simp; omega) _)) Hown9.out Hgrow9.out (fun g hg => by
                    rcases Hat9.out with h | h
                    · exact .inl (h.symm.trans hg)
                    · right
                      have h2 := h.symm.trans hg
                      simp at h2
                      omega)
                all_goals (simp [intOf]; try omega)
              · rcases Nat.lt_or_ge j bs.length with hjn | hjn
                · obtain ⟨_, _, e0, hc, _⟩ := HA2.out.one hjn
                  cases e0
                  have h10 : (((byteAt bs j : Nat) : Int) != 10) = false := by rw [hz]; rfl
                  clear hz
                  go_wp2_with fail
                  refine HC.out.mono ?_
                  rintro e w1 ⟨B, capb, rfl, hb1, hcb, htb⟩
                  have hE1 := HI.out.2.2.2.1.below hb1 HI.out.2.2.2.1.lt
                  have hB1 := HI.out.2.2.2.2.trans (hb1.mono HI.out.2.2.2.2.size)
                  have hlt0 : w.heap.size < w1.heap.size := hE1.lt
                  have hwr := hb1.size
                  have hwr0 := HI.out.2.2.2.2.size
                  obtain ⟨cs, hr0, hrs0⟩ := HI.out.2.2.1
                  have hro : ∀ g, (Value.slice Ar rs.length capr).ownBlock = some g → g < wr.heap.size := fun g hg => (hr0.lt g hg).2
                  have hr1 := own_below hr0 hb1
                  have hrs1 : RulesAre w1 (fun b => (w.heap.size + 1 ≤ b ∧ some b ≠ (Value.slice Ar rs.length capr).ownBlock) ∧ b < w1.heap.size) rs cs := (hrs0.keep (w' := wr) (Q := fun b => (w.heap.size + 1 ≤ b ∧ some b ≠ (Value.slice Ar rs.length capr).ownBlock) ∧ b < w1.heap.size) (fun _ _ _ _ => rfl) (fun b hb hl => ⟨hb, by omega⟩)).below hb1
                  have htb1 : TreesAt w1 (fun b => (w.heap.size + 1 ≤ b ∧ some b ≠ (Value.slice Ar rs.length capr).ownBlock) ∧ b < w1.heap.size) r.body.kids B := htb.keep (fun _ _ _ _ => rfl) (fun b (hb : wr.heap.size ≤ b) hl => ⟨⟨by have := HI.out.2.2.2.1.lt; omega, fun e => by have := hro b e.symm; omega⟩, hl⟩)
                  have HX1 := Lib.hid (show _ ∧ _ ∧ _ ∧ _ ∧ _ ∧ _ from ⟨hE1, hB1, hr1, hrs1, htb1, hcb⟩)
                  have hneE := Lib.hid (blk_not_row hE1 (by decide) hr1)
                  have h63 : rs.length + 1 ≤ maxLen := Nat.le_trans (show rs.length + 1 ≤ 64 by omega) (by decide)
                  have hby : (rs.length + 1) * 96 ≤ 140737488355328 := by omega
                  have hN1 : w.heap.size + 1 ≤ w1.heap.size := by omega
                  clear hb1 hE1 hB1 hr0 hrs0 hro hr1 hrs1 htb htb1 hcb HC
                  unfold ruleCell ndCell
                  dsimp only
                  go_wp2_with (at_builtin; refine wpList_append_own_at _ rfl _ _ 23 rfl (w.heap.size + 1) 58 i0 _ 9 96 Tryz.underlying23 hir hzr0 hzr1 hzr2 rfl (by decide) (.slice Ar rs.length capr) rs.length cs rfl (((HX1.out.2.2.1.alloc _).alloc _).alloc _) ⟨w1.heap.size + 1 + 1, 0, none⟩ 1 1 (ruleCell r B capb) rfl rfl (World.news_of_block (Blk.new_at (by simp))) (by simp [ruleCell, ndCell, Value.oneCell']) h63 hby (by simp; omega) ?_; intro v' w9 hown' hgrow _ hat; obtain ⟨A9, cap9, rfl⟩ := own_slice hown')
                  have Hown9 := Lib.hid hown'
                  have Hgrow9 := Lib.hid hgrow
                  have Hat9 := Lib.hid hat
                  clear hown' hgrow hat
                  go_wp2
                  go_light
                  go_roundw
                  case rel =>
                    refine ⟨j + 1, rs ++ [r], A9, cap9, by go_num, by simp, by omega, by simp; omega, Lib.hid ⟨HV2.out, HNM.out, ?_, (((HX1.out.1.alloc _).alloc _).alloc _).grown Hgrow9.out hneE.out, below_grown (below_more (below_more (below_more HX1.out.2.1 _) _) _) Hgrow9.out (((HX1.out.2.2.1.alloc _).alloc _).alloc _) (by omega) (by simp; omega)⟩⟩
                    rw [List.length_append]
                    exact RowR.append (H := w1.heap.size) (((HX1.out.2.2.1.alloc _).alloc _).alloc _) (HX1.out.2.2.2.1.below ((((Below.refl w1.heap.size w1).alloc (Nat.le_refl _) _).alloc (by simp) _).alloc (by simp; omega) _)) HX1.out.2.2.2.2.2 (HX1.out.2.2.2.2.1.below ((((Below.refl w1.heap.size w1).alloc (Nat.le_refl _) _).alloc (by simp) _).alloc (by simp; omega) _)) Hown9.out Hgrow9.out (fun g hg => by
                      rcases Hat9.out with h | h
                      · exact .inl (h.symm.trans hg)
                      · right
                        have h2 := h.symm.trans hg
                        simp at h2
                        omega)
                  all_goals (simp [intOf]; try omega)
                · have hz1 : ¬ ((j : Int) < (bs.length : Int)) := by omega
                  clear hz
                  go_wp2_with fail
                  refine HC.out.mono ?_
                  rintro e w1 ⟨B, capb, rfl, hb1, hcb, htb⟩
                  have hE1 := HI.out.2.2.2.1.below hb1 HI.out.2.2.2.1.lt
                  have hB1 := HI.out.2.2.2.2.trans (hb1.mono HI.out.2.2.2.2.size)
                  have hlt0 : w.heap.size < w1.heap.size := hE1.lt
                  have hwr := hb1.size
                  have hwr0 := HI.out.2.2.2.2.size
                  obtain ⟨cs, hr0, hrs0⟩ := HI.out.2.2.1
                  have hro : ∀ g, (Value.slice Ar rs.length capr).ownBlock = some g → g < wr.heap.size := fun g hg => (hr0.lt g hg).2
                  have hr1 := own_below hr0 hb1
                  have hrs1 : RulesAre w1 (fun b => (w.heap.size + 1 ≤ b ∧ some b ≠ (Value.slice Ar rs.length capr).ownBlock) ∧ b < w1.heap.size) rs cs := (hrs0.keep (w' := wr) (Q := fun b => (w.heap.size + 1 ≤ b ∧ some b ≠ (Value.slice Ar rs.length capr).ownBlock) ∧ b < w1.heap.size) (fun _ _ _ _ => rfl) (fun b hb hl => ⟨hb, by omega⟩)).below hb1
                  have htb1 : TreesAt w1 (fun b => (w.heap.size + 1 ≤ b ∧ some b ≠ (Value.slice Ar rs.length capr).ownBlock) ∧ b < w1.heap.size) r.body.kids B := htb.keep (fun _ _ _ _ => rfl) (fun b (hb : wr.heap.size ≤ b) hl => ⟨⟨by have := HI.out.2.2.2.1.lt; omega, fun e => by have := hro b e.symm; omega⟩, hl⟩)
                  have HX1 := Lib.hid (show _ ∧ _ ∧ _ ∧ _ ∧ _ ∧ _ from ⟨hE1, hB1, hr1, hrs1, htb1, hcb⟩)
                  have hneE := Lib.hid (blk_not_row hE1 (by decide) hr1)
                  have h63 : rs.length + 1 ≤ maxLen := Nat.le_trans (show rs.length + 1 ≤ 64 by omega) (by decide)
                  have hby : (rs.length + 1) * 96 ≤ 140737488355328 := by omega
                  have hN1 : w.heap.size + 1 ≤ w1.heap.size := by omega
                  clear hb1 hE1 hB1 hr0 hrs0 hro hr1 hrs1 htb htb1 hcb HC
                  unfold ruleCell ndCell
                  dsimp only
                  go_wp2_with (at_builtin; refine wpList_append_own_at _ rfl _ _ 23 rfl (w.heap.size + 1) 58 i0 _ 9 96 Tryz.underlying23 hir hzr0 hzr1 hzr2 rfl (by decide) (.slice Ar rs.length capr) rs.length cs rfl (((HX1.out.2.2.1.alloc _).alloc _).alloc _) ⟨w1.heap.size + 1 + 1, 0, none⟩ 1 1 (ruleCell r B capb) rfl rfl (World.news_of_block (Blk.new_at (by simp))) (by simp [ruleCell, ndCell, Value.oneCell']) h63 hby (by simp; omega) ?_; intro v' w9 hown' hgrow _ hat; obtain ⟨A9, cap9, rfl⟩ := own_slice hown')
                  have Hown9 := Lib.hid hown'
                  have Hgrow9 := Lib.hid hgrow
                  have Hat9 := Lib.hid hat
                  clear hown' hgrow hat
                  go_wp2
                  go_light
                  go_roundw
                  case rel =>
                    refine ⟨j + 1, rs ++ [r], A9, cap9, by go_num, by simp, by omega, by simp; omega, Lib.hid ⟨HV2.out, HNM.out, ?_, (((HX1.out.1.alloc _).alloc _).alloc _).grown Hgrow9.out hneE.out, below_grown (below_more (below_more (below_more HX1.out.2.1 _) _) _) Hgrow9.out (((HX1.out.2.2.1.alloc _).alloc _).alloc _) (by omega) (by simp; omega)⟩⟩
                    rw [List.length_append]
                    exact RowR.append (H := w1.heap.size) (((HX1.out.2.2.1.alloc _).alloc _).alloc _) (HX1.out.2.2.2.1.below ((((Below.refl w1.heap.size w1).alloc (Nat.le_refl _) _).alloc (by simp) _).alloc (by simp; omega) _)) HX1.out.2.2.2.2.2 (HX1.out.2.2.2.2.1.below ((((Below.refl w1.heap.size w1).alloc (Nat.le_refl _) _).alloc (by simp) _).alloc (by simp; omega) _)) Hown9.out Hgrow9.out (fun g hg => by
                      rcases Hat9.out with h | h
                      · exact .inl (h.symm.trans hg)
                      · right
                        have h2 := h.symm.trans hg
                        simp at h2
                        omega)
                  all_goals (simp [intOf]; try omega)
    · have hT : rulesC bs 0 [] = .ok rs := HI.out.1.trans (rulesC_end (by omega) hi0)
      have HV := Lib.hid (Hlen.out.trans hT)
      have hdl : ¬ (i : Int) < (bs.length : Int) := by omega
      obtain ⟨hE, hB⟩ := HI.out.2.2.2
      obtain ⟨r0, r1, e0, e1⟩ := hE.c2
      have HW := Lib.hid (show _ ∧ _ ∧ _ from ⟨hE, hB, HI.out.2.2.1⟩)
      clear hT hE hB HI
      go_wp2
      go_light
      refine bodyPost_ret (ret_split (c := .slice Ar rs.length capr) Tryz.results6 rfl rfl HW.out.1.set2) rfl ?_
      unfold RulesOut
      rw [HV.out]
      obtain ⟨cs, hr0, hrs0⟩ := HW.out.2.2
      have hneE := blk_not_row HW.out.1 (by decide) hr0
      have h1 := own_set (o := 1) (u := .int .i64 0) (own_set (o := 0) (u := .int .i64 0) hr0 hneE) hneE
      have hRR : RowR ((wr.setCell ⟨w.heap.size, 0, none⟩ (.int .i64 0)).setCell ⟨w.heap.size, 1, none⟩ (.int .i64 0)) (w.heap.size + 1) (.slice Ar rs.length capr) rs := ⟨cs, h1, hrs0.keep (fun b o hb hl => World.cell?_of_block ((Below.heap_setCell _ _ _ b (by have := hb.1; simp; omega)).trans (Below.heap_setCell _ _ _ b (by have := hb.1; simp; omega)))) (fun b hb _ => hb)⟩
      exact ⟨Ar, capr, rfl, below_set2 HW.out.2.1 (Nat.le_refl _) _ _, hRR.rules.1, hRR.rules.2.weak (fun b hb _ => by omega)⟩
theorem rsread_go (A : Option Addr) (cap : Nat) (bs : List Nat) (w : World) (hA : BytesAt w w.heap.size A bs) (hcap : bs.length ≤ cap) :
    Calls Tryz.prog 6 #[.slice A bs.length cap] w (RulesOut (rulesS bs) w) := by
  rcases Nat.lt_or_ge 65536 bs.length with h | h
  · exact rread_long A cap bs w h hA.2.1
  · exact rread_in A cap bs w hA hcap h
end Go.Proofs.YtajohcknenngnaaGreat
