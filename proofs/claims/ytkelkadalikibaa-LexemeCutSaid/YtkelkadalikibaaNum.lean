/-
  The contracts of num.run, num.value, num.Read and num.Take (at most 1000).
-/
import Derived.Test.YtkelkadalikibaaDec
import Derived.Test.YtkelkadalikibaaJoin
import Derived.Deep.Light
import Derived.Lib.Hide
namespace Go.Proofs.Ytkelkadalikibaa
open Go.RowKit
set_option linter.unusedSimpArgs false
set_option linter.unusedVariables false
set_option maxRecDepth 100000

/-- The cells of some bytes from an address on. -/
theorem bytesAt_cells {w : World} {N b o : Nat} {bs : List Nat} (h : BytesAt w N (some ⟨b, o, none⟩) bs) : ∀ i, i < bs.length → w.cell? ⟨b, o + i, none⟩ = some (.int .u8 ((byteAt bs i : Nat) : Int)) := by
  intro i hi
  obtain ⟨b', o', e, _, hc⟩ := h.2.2 (by omega)
  simp at e
  obtain ⟨rfl, rfl⟩ := e
  exact hc i hi

set_option maxHeartbeats 1000000 in
theorem run_go (b o cap : Nat) (bs : List Nat) (i : Nat) (w : World) (hA : BytesAt w w.heap.size (some ⟨b, o, none⟩) bs) (hcap : bs.length ≤ cap) (hi : i ≤ bs.length) :
    Calls Try.prog 96 #[.slice (some ⟨b, o, none⟩) bs.length cap, .int .i64 (i : Int)] w fun e w' => e = .returned (.int .i64 (((digs bs i).length : Nat) : Int)) ∧ w = w' := by
  have hc := Lib.hid (bytesAt_cells hA)
  have hl := hA.2.1
  have hb := Lib.hid hA.1
  clear hA
  by_cases hlt : i < bs.length
  · have hne : ¬ cap = i := by omega
    go_enter Try.func96, Try.ntmps96
    go_wp2
    obtain ⟨m, hm⟩ : ∃ m, m = bs.length - i := ⟨_, rfl⟩
    rw [← hm]
    have hm1 : i + m ≤ bs.length := by omega
    have hm2 : bs.length ≤ i + m := by omega
    clear hm
    go_loop [5, 12] (fun v5 v12 => ∃ k : Nat, k ≤ m ∧ k ≤ (digs bs i).length ∧ v5 = .int .i64 (k : Int) ∧ v12 = .int .i64 (k : Int)) (fun _ v12 => m - (intOf v12).toNat)
    case atStart => exact ⟨0, Nat.zero_le _, Nat.zero_le _, rfl, rfl⟩
    case round =>
      obtain ⟨k, hk, hd, rfl, rfl⟩ := hrel
      by_cases hkm : k < m
      · have hcell : w.cell? ⟨b, o + i + k, none⟩ = some (.int .u8 ((byteAt bs (i + k) : Nat) : Int)) := by
          have := hc.out (i + k) (by omega)
          rwa [← Nat.add_assoc] at this
        cases hdg : isDig (byteAt bs (i + k))
        · have Hn := Lib.hid (digs_stop hd (by omega) hdg)
          have hx : ¬ (48 ≤ byteAt bs (i + k) ∧ byteAt bs (i + k) ≤ 57) := by rw [← isDig_iff, hdg]; decide
          generalize byteAt bs (i + k) = c at *
          clear hdg
          by_cases h48 : c < 48
          · go_wp2
            go_light
            go_ret
            exact ⟨by rw [Hn.out]; rfl, rfl⟩
          · have h57 : 57 < c := by omega
            clear hx
            go_wp2
            go_light
            go_ret
            exact ⟨by rw [Hn.out]; rfl, rfl⟩
        · have hn := digs_more hd (by omega) hdg
          have hx := (isDig_iff _).1 hdg
          generalize byteAt bs (i + k) = c at *
          obtain ⟨hx1, hx2⟩ := hx
          clear hdg
          go_wp2
          go_light
          go_round
          case rel => exact ⟨k + 1, by omega, hn, by go_num, by go_num⟩
          case measure => simp [intOf]; omega
      · have Hn := Lib.hid (digs_end hd (by omega))
        have hkm' : m ≤ k := by omega
        go_wp2
        go_light
        go_ret
        exact ⟨by rw [Hn.out]; rfl, rfl⟩
  · have Hn := Lib.hid (digs_end (bs := bs) (i := i) (k := 0) (Nat.zero_le _) (by omega))
    have he : i = bs.length := by omega
    subst he
    by_cases hne : cap = bs.length
    · subst hne
      go_enter Try.func96, Try.ntmps96
      go_wp2
      refine wp_loop_rounds 1 ?_
      rw [rounds_succ]
      go_wp2
      go_light
      go_ret
      exact ⟨by rw [Hn.out]; rfl, rfl⟩
    · go_enter Try.func96, Try.ntmps96
      go_wp2
      refine wp_loop_rounds 1 ?_
      rw [rounds_succ]
      go_wp2
      go_light
      go_ret
      exact ⟨by rw [Hn.out]; rfl, rfl⟩


theorem byteAt_dig {ds : List Nat} (hd : ∀ c ∈ ds, isDig c = true) {k : Nat} (hk : k < ds.length) : isDig (byteAt ds k) = true := by
  rw [← byteAt_get hk]
  exact hd _ (List.getElem_mem _)
/-- The value of digits, with whether it is 1000 at most. -/
def valueVal (ds : List Nat) : Value := if 1000 < decVal ds then .tuple #[.int .i64 0, .bool false] else .tuple #[.int .i64 ((decVal ds : Nat) : Int), .bool true]
set_option maxHeartbeats 1000000 in
theorem value_any (b o cap : Nat) (ds : List Nat) (w : World) (hA : BytesAt w w.heap.size (some ⟨b, o, none⟩) ds) (hd : ∀ c ∈ ds, isDig c = true) :
    Calls Try.prog 114 #[.slice (some ⟨b, o, none⟩) ds.length cap, .int .i64 1000] w fun e w' => e = .returned (valueVal ds) ∧ w = w' := by
  have hc := Lib.hid (bytesAt_cells hA)
  have hl := hA.2.1
  have Hd := Lib.hid hd
  clear hA hd
  go_enter Try.func114, Try.ntmps114
  go_wp2
  go_loop [6, 12] (fun v6 v12 => ∃ k : Nat, k ≤ ds.length ∧ v12 = .int .i64 (k : Int) ∧ v6 = .int .i64 ((decVal (ds.take k) : Nat) : Int) ∧ decVal (ds.take k) ≤ 1000) (fun _ v12 => ds.length - (intOf v12).toNat)
  case atStart => exact ⟨0, Nat.zero_le _, rfl, by simp [decVal], by simp [decVal]⟩
  case round =>
    obtain ⟨k, hk, rfl, rfl, hv⟩ := hrel
    by_cases hkm : k < ds.length
    · have hcell := hc.out k hkm
      have Ht := Lib.hid (decVal_take hkm)
      have Hm := Lib.hid (decVal_le ds (k + 1) hkm)
      obtain ⟨hx1, hx2⟩ := (isDig_iff _).1 (byteAt_dig Hd.out hkm)
      generalize byteAt ds k = c at *
      generalize decVal (ds.take k) = v at *
      obtain ⟨d, rfl⟩ : ∃ d, c = 48 + d := ⟨c - 48, by omega⟩
      have hd9 : d ≤ 9 := by omega
      by_cases hbig : 1000 < v * 10 + d
      · have HV : Hid (valueVal ds = .tuple #[.int .i64 0, .bool false]) := by
          show valueVal ds = _
          unfold valueVal
          rw [if_pos]
          have h1 := Ht.out
          have h2 := Hm.out
          omega
        go_wp2
        go_light
        go_ret2
        exact ⟨by rw [HV.out]; rfl, rfl⟩
      · have Hv := Lib.hid (show decVal (ds.take (k + 1)) = v * 10 + d by have h1 := Ht.out; omega)
        go_wp2
        go_light
        go_round
        case rel => exact ⟨k + 1, by omega, by go_num, congrArg (Value.int .i64) (by rw [Hv.out]; omega), by rw [Hv.out]; omega⟩
        case measure => simp [intOf]; omega
    · have Hn : Hid (valueVal ds = .tuple #[.int .i64 ((decVal (ds.take k) : Nat) : Int), .bool true]) := by
        show valueVal ds = _
        unfold valueVal
        rw [List.take_of_length_le (by omega)] at hv ⊢
        rw [if_neg (by omega)]
      go_wp2
      go_light
      go_ret2
      exact ⟨by rw [Hn.out]; rfl, rfl⟩


/-- What a text of digits is read as, 1000 at most. -/
def readNum (ds : List Nat) : Value := if badForm ds = true then .tuple #[.int .i64 0, .int .i64 3] else if 1000 < decVal ds then .tuple #[.int .i64 0, .int .i64 2] else .tuple #[.int .i64 ((decVal ds : Nat) : Int), .int .i64 0]

set_option maxHeartbeats 1000000 in
theorem nread_go (ds : List Nat) (w : World) (hd : ∀ c ∈ ds, isDig c = true) (hl : ds.length ≤ 140737488355328) :
    Calls Try.prog 97 #[.string (strOf ds), .int .i64 1000] w fun e w' => e = .returned (readNum ds) ∧ Below w.heap.size w w' := by
  have h256 : ∀ x ∈ ds, x < 256 := fun x hx => by have := (isDig_iff x).1 (hd x hx); omega
  obtain ⟨C, w2, k1, hA2, hb2, hC⟩ := conv_text w ds h256 hl
  have hr := run_go w.heap.size 0 C ds 0 w2 hA2 hC (Nat.zero_le _)
  rw [digs_own hd] at hr
  have Hr := Lib.hid hr
  have hv := value_any w.heap.size 0 C ds w2 hA2 hd
  have Hv := Lib.hid hv
  have HC := Lib.hid (bytesAt_cells hA2)
  have HB := Lib.hid hb2
  clear hr hv hA2 hb2 hC

  have Hd := Lib.hid hd
  have H256 := Lib.hid h256
  clear hd h256
  cases hf : badForm ds
  · obtain ⟨hp, h0⟩ := badForm_false hf
    have hne : (((ds.length : Nat) : Int) == 0) = false := by rw [beq_eq_false_iff_ne]; omega
    have hcell := HC.out 0 hp
    rw [Nat.zero_add] at hcell
    have Hf := Lib.hid hf
    by_cases hbig : 1000 < decVal ds
    · have Hv1 := Lib.hid (show valueVal ds = .tuple #[.int .i64 0, .bool false] from if_pos hbig)
      have HV := Lib.hid (show readNum ds = .tuple #[.int .i64 0, .int .i64 2] by unfold readNum; rw [hf, if_neg (by decide), if_pos hbig])
      clear hf hbig
      by_cases hz : byteAt ds 0 = 48
      · have h1 : ds.length ≤ 1 := by
          rcases Nat.lt_or_ge 1 ds.length with h | h
          · exact absurd hz (h0 h)
          · exact h
        have hb1 : (((byteAt ds 0 : Nat) : Int) == 48) = true := by rw [hz]; rfl
        clear hz h0
        go_enter Try.func97, Try.ntmps97
        go_wp2_with fail
        refine Hr.out.mono ?_
        rintro e w3 ⟨rfl, rfl⟩
        go_wp2_with fail
        refine Hv.out.mono ?_
        rintro e w4 ⟨rfl, rfl⟩
        rw [Hv1.out]
        go_wp2
        go_light
        go_ret2
        exact ⟨by rw [HV.out]; rfl, HB.out⟩
      · have hb1 : (((byteAt ds 0 : Nat) : Int) == 48) = false := by simp; omega
        clear hz h0
        go_enter Try.func97, Try.ntmps97
        go_wp2_with fail
        refine Hr.out.mono ?_
        rintro e w3 ⟨rfl, rfl⟩
        go_wp2_with fail
        refine Hv.out.mono ?_
        rintro e w4 ⟨rfl, rfl⟩
        rw [Hv1.out]
        go_wp2
        go_light
        go_ret2
        exact ⟨by rw [HV.out]; rfl, HB.out⟩
    · have Hv1 := Lib.hid (show valueVal ds = .tuple #[.int .i64 ((decVal ds : Nat) : Int), .bool true] from if_neg hbig)
      have HV := Lib.hid (show readNum ds = .tuple #[.int .i64 ((decVal ds : Nat) : Int), .int .i64 0] by unfold readNum; rw [hf, if_neg (by decide), if_neg hbig])
      clear hf hbig
      by_cases hz : byteAt ds 0 = 48
      · have h1 : ds.length ≤ 1 := by
          rcases Nat.lt_or_ge 1 ds.length with h | h
          · exact absurd hz (h0 h)
          · exact h
        have hb1 : (((byteAt ds 0 : Nat) : Int) == 48) = true := by rw [hz]; rfl
        clear hz h0
        go_enter Try.func97, Try.ntmps97
        go_wp2_with fail
        refine Hr.out.mono ?_
        rintro e w3 ⟨rfl, rfl⟩
        go_wp2_with fail
        refine Hv.out.mono ?_
        rintro e w4 ⟨rfl, rfl⟩
        rw [Hv1.out]
        go_wp2
        go_light
        go_ret2
        exact ⟨by rw [HV.out]; rfl, HB.out⟩
      · have hb1 : (((byteAt ds 0 : Nat) : Int) == 48) = false := by simp; omega
        clear hz h0
        go_enter Try.func97, Try.ntmps97
        go_wp2_with fail
        refine Hr.out.mono ?_
        rintro e w3 ⟨rfl, rfl⟩
        go_wp2_with fail
        refine Hv.out.mono ?_
        rintro e w4 ⟨rfl, rfl⟩
        rw [Hv1.out]
        go_wp2
        go_light
        go_ret2
        exact ⟨by rw [HV.out]; rfl, HB.out⟩
  · have HV := Lib.hid (show readNum ds = .tuple #[.int .i64 0, .int .i64 3] by unfold readNum; rw [hf]; rfl)
    rcases badForm_true hf with h0 | ⟨h0, h1⟩
    · have he : (((ds.length : Nat) : Int) == 0) = true := by rw [h0]; rfl
      clear hf h0
      go_enter Try.func97, Try.ntmps97
      go_wp2_with fail
      refine Hr.out.mono ?_
      rintro e w3 ⟨rfl, rfl⟩
      go_wp2
      go_light
      go_ret2
      exact ⟨by rw [HV.out]; rfl, HB.out⟩
    · have hcell := HC.out 0 (by omega)
      rw [Nat.zero_add] at hcell
      have hb1 : (((byteAt ds 0 : Nat) : Int) == 48) = true := by rw [h0]; rfl
      have hne : (((ds.length : Nat) : Int) == 0) = false := by rw [beq_eq_false_iff_ne]; omega
      clear hf h0
      go_enter Try.func97, Try.ntmps97
      go_wp2_with fail
      refine Hr.out.mono ?_
      rintro e w3 ⟨rfl, rfl⟩
      go_wp2
      go_light
      go_ret2
      exact ⟨by rw [HV.out]; rfl, HB.out⟩


/-- What a number at a place is read as. -/
def takeVal (bs : List Nat) (i : Nat) : Value :=
  match takeS bs i with
  | some (v, j) => .tuple #[.int .i64 (v : Int), .int .i64 (j : Int), .int .i64 0]
  | none => .tuple #[.int .i64 0, .int .i64 0, .int .i64 (takeErr bs i)]
theorem digs_at (bs : List Nat) (i j : Nat) (hj : j < (digs bs i).length) : byteAt (digs bs i) j = byteAt bs (i + j) := by
  have h := digs_take bs i
  generalize hn : (digs bs i).length = n at *
  rw [h]
  unfold byteAt
  rw [List.getD_eq_getElem?_getD, List.getD_eq_getElem?_getD, List.getElem?_take, if_pos hj, List.getElem?_drop]
theorem run_digs {w : World} {N b o : Nat} {bs : List Nat} {i : Nat} (hA : BytesAt w N (some ⟨b, o, none⟩) bs) (hi : i ≤ bs.length) (c : Nat) :
    (convert 22 9 (.slice (some ⟨b, o + i, none⟩) (digs bs i).length c)).run Try.prog w = .ok (.string (strOf (digs bs i))) w := run_str w ⟨b, o + i, none⟩ c (digs bs i) (by
  have hdl := digs_len bs i
  intro j u hu
  have hlt : j < (digs bs i).length := by
    rcases Nat.lt_or_ge j (digs bs i).length with h | h
    · exact h
    · rw [List.getElem?_eq_none (by simpa using h)] at hu; cases hu
  have e : (⟨b, o + i, none⟩ : Addr).add j = ⟨b, o + (i + j), none⟩ := by unfold Addr.add; split <;> simp_all; omega
  rw [e, bytesAt_cells hA (i + j) (by omega), ← digs_at bs i j hlt]
  rw [List.getElem?_map, List.getElem?_eq_getElem hlt] at hu
  rw [← byteAt_get hlt]
  simpa using hu)
theorem takeVal_form (bs : List Nat) (i : Nat) : ∃ v k, readNum (digs bs i) = .tuple #[.int .i64 v, .int .i64 k] ∧ takeVal bs i = (if k = 0 then .tuple #[.int .i64 v, .int .i64 ((i : Int) + ((digs bs i).length : Nat)), .int .i64 0] else .tuple #[.int .i64 0, .int .i64 0, .int .i64 k]) ∧ (k = 0 ∨ k = 2 ∨ k = 3) := by
  unfold takeVal readNum
  cases hf : badForm (digs bs i)
  · by_cases hbig : 1000 < decVal (digs bs i)
    · obtain ⟨e1, e2⟩ := takeS_big hf hbig
      rw [e1, e2, if_neg (by decide), if_pos hbig]
      exact ⟨_, _, rfl, rfl, .inr (.inl rfl)⟩
    · have e1 := takeS_ok hf (by omega)
      rw [e1, if_neg (by decide), if_neg hbig]
      exact ⟨_, _, rfl, by simp, .inl rfl⟩
  · obtain ⟨e1, e2⟩ := takeS_bad hf
    rw [e1, e2, if_pos rfl]
    exact ⟨_, _, rfl, rfl, .inr (.inr rfl)⟩
set_option maxHeartbeats 1000000 in
theorem take_at (b o cap : Nat) (bs : List Nat) (i : Nat) (w : World) (hA : BytesAt w w.heap.size (some ⟨b, o, none⟩) bs) (hcap : bs.length ≤ cap) (hi : i ≤ bs.length) :
    Calls Try.prog 71 #[.slice (some ⟨b, o, none⟩) bs.length cap, .int .i64 (i : Int), .int .i64 1000] w fun e w' => e = .returned (takeVal bs i) ∧ Below w.heap.size w w' := by
  have hr := run_go b o cap bs i w hA hcap hi
  have hl := hA.2.1
  have hdl := digs_len bs i
  have Hd := Lib.hid (digs_dig bs i)
  have hs : ∀ c, (convert 22 9 (.slice (some ⟨b, o + i, none⟩) (digs bs i).length c)).run Try.prog w = .ok (.string (strOf (digs bs i))) w := fun c => run_digs hA hi c
  have hn := nread_go (digs bs i) w (digs_dig bs i) (by omega)
  obtain ⟨v, k, hv1, hv2, hk⟩ := takeVal_form bs i
  rw [hv1] at hn
  have Hn := Lib.hid hn
  have Hr := Lib.hid hr
  have Hv := Lib.hid hv2
  clear hA hr hn hv1 hv2
  have hs0 : (convert 22 9 (.slice (some ⟨b, o, none⟩) 0 0)).run Try.prog w = .ok (.string (strOf [])) w := run_str w ⟨b, o, none⟩ 0 [] (by simp)
  generalize digs bs i = ds at *
  by_cases hce : cap = i
  · have hn0 : ds = [] := List.length_eq_zero_iff.1 (by omega)
    subst hn0
    subst hce
    clear hs hdl
    rcases hk with rfl | rfl | rfl
    · go_enter Try.func71, Try.ntmps71
      go_wp2_with fail
      refine Hr.out.mono ?_
      rintro e w2 ⟨rfl, rfl⟩
      go_wp2_with fail
      refine Hn.out.mono ?_
      rintro e w2 ⟨rfl, hb2⟩
      go_wp2
      go_light
      go_ret3
      exact ⟨by rw [Hv.out]; simp, hb2⟩
    · go_enter Try.func71, Try.ntmps71
      go_wp2_with fail
      refine Hr.out.mono ?_
      rintro e w2 ⟨rfl, rfl⟩
      go_wp2_with fail
      refine Hn.out.mono ?_
      rintro e w2 ⟨rfl, hb2⟩
      go_wp2
      go_light
      go_ret3
      exact ⟨by rw [Hv.out]; simp, hb2⟩
    · go_enter Try.func71, Try.ntmps71
      go_wp2_with fail
      refine Hr.out.mono ?_
      rintro e w2 ⟨rfl, rfl⟩
      go_wp2_with fail
      refine Hn.out.mono ?_
      rintro e w2 ⟨rfl, hb2⟩
      go_wp2
      go_light
      go_ret3
      exact ⟨by rw [Hv.out]; simp, hb2⟩
  · generalize ds.length = n at *
    clear hs0
    rcases hk with rfl | rfl | rfl
    · go_enter Try.func71, Try.ntmps71
      go_wp2_with fail
      refine Hr.out.mono ?_
      rintro e w2 ⟨rfl, rfl⟩
      go_wp2_with fail
      refine Hn.out.mono ?_
      rintro e w2 ⟨rfl, hb2⟩
      go_wp2
      go_light
      go_ret3
      exact ⟨by rw [Hv.out]; simp, hb2⟩
    · go_enter Try.func71, Try.ntmps71
      go_wp2_with fail
      refine Hr.out.mono ?_
      rintro e w2 ⟨rfl, rfl⟩
      go_wp2_with fail
      refine Hn.out.mono ?_
      rintro e w2 ⟨rfl, hb2⟩
      go_wp2
      go_light
      go_ret3
      exact ⟨by rw [Hv.out]; simp, hb2⟩
    · go_enter Try.func71, Try.ntmps71
      go_wp2_with fail
      refine Hr.out.mono ?_
      rintro e w2 ⟨rfl, rfl⟩
      go_wp2_with fail
      refine Hn.out.mono ?_
      rintro e w2 ⟨rfl, hb2⟩
      go_wp2
      go_light
      go_ret3
      exact ⟨by rw [Hv.out]; simp, hb2⟩

end Go.Proofs.Ytkelkadalikibaa
