/-
  The contracts of the reference's Digit, Read and Take (at most 1000).
-/
import Derived.Deep.QuietTactic
import Derived.BigQuiet
import Derived.Test.YtajohcknenngnaaGreatQZ01
namespace Go.Proofs.YtajohcknenngnaaGreat
open Go.RowKit
set_option linter.unusedSimpArgs false
set_option linter.unusedVariables false
set_option maxRecDepth 100000

theorem rdig_go (c : Int) (w : World) (h0 : 0 ≤ c) (h1 : c < 256) :
    Calls Tryz.prog 150 #[.int .u8 c] w fun e w' => e = .returned (.bool (isDig c.toNat)) ∧ w = w' := by
  obtain ⟨n, rfl⟩ := Int.eq_ofNat_of_zero_le h0
  go_enter Tryz.func150, Tryz.ntmps150
  go_wp2
  all_goals go_light
  all_goals go_ret
  all_goals refine ⟨ret_b ?_, rfl⟩
  all_goals (rw [Bool.eq_iff_iff]; simp [isDig]; omega)

theorem strOf_byte {ds : List Nat} (h : ∀ c ∈ ds, c < 256) (k : Nat) (hk : k < (strOf ds).size) : ((strOf ds)[k]'hk).toNat = byteAt ds k := by
  have hk' : k < ds.length := by rwa [strOf_size] at hk
  have hb : byteAt ds k < 256 := byteAt_lt h k
  have e : ∀ (l : List Nat) (h : k < (l.map UInt8.ofNat).toArray.size), ((l.map UInt8.ofNat).toArray[k]'h).toNat = byteAt l k % 256 := by
    intro l h
    have h' : k < l.length := by simpa using h
    simp only [List.getElem_toArray, List.getElem_map]
    rw [byteAt_get h']
    simp
  have e2 := e ds hk
  rw [Nat.mod_eq_of_lt hb] at e2
  exact e2

theorem notEmpty {s : ByteArray} (h : 0 < s.size) : s.toList.isEmpty = false := by
  rw [ByteArray.toList_eq]
  have h' : 0 < s.data.toList.length := by rw [Array.length_toList]; exact h
  cases hs : s.data.toList with
  | nil => rw [hs] at h'; simp at h'
  | cons a l => rfl

set_option maxHeartbeats 2000000 in
theorem rread_s (s : ByteArray) (ds : List Nat) (w : World) (hd : ∀ c ∈ ds, isDig c = true) (hsz : s.size = ds.length) (hby : ∀ (k : Nat) (h : k < s.size), (s[k]'h).toNat = byteAt ds k) (hl : ds.length ≤ 140737488355328) :
    Calls Tryz.prog 151 #[.string s, .int .i64 1000] w fun e w' => e = .returned (readNum ds) ∧ w = w' := by
  have Hd := Lib.hid hd
  have Hby := Lib.hid hby
  have Hsz := Lib.hid hsz
  have hz : s.size ≤ 140737488355328 := by omega
  clear hd hby hsz
  go_enter Tryz.func151, Tryz.ntmps151
  go_wp2
  go_loop [6] (fun v6 => ∃ k : Nat, k ≤ s.size ∧ v6 = .int .i64 (k : Int)) (fun v6 => s.size - (intOf v6).toNat)
  case atStart => exact ⟨0, Nat.zero_le _, rfl⟩
  case round =>
    obtain ⟨k, hk, rfl⟩ := hrel
    by_cases hlt : k < s.size
    · have hb := (Hby.out k hlt).symm ▸ (byteAt_dig Hd.out (k := k) (by have := Hsz.out; omega))
      have Hb := Lib.hid hb
      obtain ⟨h48, h57⟩ := (isDig_iff _).1 hb
      clear hb
      go_wp2_with fail
      refine (rdig_go _ _ (by omega) (by omega)).mono ?_
      rintro e w2 ⟨rfl, rfl⟩
      rw [Int.toNat_natCast, Hb.out]
      go_wp2
      go_light
      go_round
      case rel => exact ⟨k + 1, by omega, by go_num⟩
      case measure => simp [intOf]; omega
    · have hk' : s.size ≤ k := by omega
      have hsz := Hsz.out
      cases hf : badForm ds
      · obtain ⟨hp, h0⟩ := badForm_false hf
        have hp' : 0 < s.size := by omega
        have hne := notEmpty hp'
        obtain ⟨z, hz1, hz2⟩ : ∃ z : Bool, (((s[0]'hp').toNat : Int) == 48) = z ∧ (z = true → s.size ≤ 1) := by
          refine ⟨_, rfl, fun h => ?_⟩
          have h1 : byteAt ds 0 = 48 := by rw [← Hby.out 0 hp']; have h2 := beq_iff_eq.1 h; omega
          rcases Nat.lt_or_ge 1 ds.length with h | h
          · exact absurd h1 (h0 h)
          · omega
        by_cases hlong : 19 < s.size
        · have hz3 : z = false := by cases z; rfl; have := hz2 rfl; omega
          subst hz3
          have HV := Lib.hid (show readNum ds = .tuple #[.int .i64 0, .int .i64 2] by unfold readNum; rw [hf, if_neg (by decide), if_pos (decVal_long Hd.out hf (by omega))])
          clear hf h0 hz2 hsz
          go_wp2
          go_light
          go_ret2
          exact ⟨by rw [HV.out]; rfl, rfl⟩
        · have Hf := Lib.hid hf
          have Hsz2 := Lib.hid hsz
          clear hf h0 hsz
          have hcase : z = false ∨ (z = true ∧ s.size ≤ 1) := by cases z; exact .inl rfl; exact .inr ⟨rfl, hz2 rfl⟩
          clear hz2
          rcases hcase with rfl | ⟨rfl, h1⟩
          all_goals
            go_wp2
            go_loop [7, 8] (fun v7 v8 => ∃ m : Nat, m ≤ s.size ∧ v8 = .int .i64 (m : Int) ∧ v7 = .int .u64 ((decVal (ds.take m) : Nat) : Int)) (fun _ v8 => s.size - (intOf v8).toNat)
            case atStart => exact ⟨0, Nat.zero_le _, rfl, by simp [decVal]⟩
            case round =>
              obtain ⟨m, hm, rfl, rfl⟩ := hrel
              by_cases hms : m < s.size
              · have hmd : m < ds.length := by have := Hsz2.out; omega
                have Ht := Lib.hid (decVal_take hmd)
                have hb := Hby.out m hms
                obtain ⟨hx1, hx2⟩ := (isDig_iff _).1 (byteAt_dig Hd.out hmd)
                rw [← hb] at hx1 hx2
                have hsmall : decVal (ds.take m) < 10 ^ 18 := Nat.lt_of_lt_of_le (decVal_lt Hd.out m (by omega)) (Nat.pow_le_pow_right (by decide) (by omega))
                have hsm : decVal (ds.take m) ≤ 1000000000000000000 := by
                  have e : (10 : Nat) ^ 18 = 1000000000000000000 := by decide
                  omega
                rw [← hb] at Ht
                clear hb hsmall
                generalize decVal (ds.take m) = v at *
                go_wp2
                go_light
                go_round
                case rel => exact ⟨m + 1, by omega, by go_num, congrArg (Value.int .u64) (by rw [Ht.out]; omega)⟩
                case measure => simp [intOf]; omega
              · have hv : decVal (ds.take m) = decVal ds := by rw [List.take_of_length_le (by have := Hsz2.out; omega)]
                rw [hv]
                clear hv
                by_cases hbig : 1000 < decVal ds
                · have HV := Lib.hid (show readNum ds = .tuple #[.int .i64 0, .int .i64 2] by unfold readNum; rw [Hf.out, if_neg (by decide), if_pos hbig])
                  generalize decVal ds = v at *
                  go_wp2
                  go_light
                  go_ret2
                  exact ⟨by rw [HV.out]; rfl, rfl⟩
                · have HV := Lib.hid (show readNum ds = .tuple #[.int .i64 ((decVal ds : Nat) : Int), .int .i64 0] by unfold readNum; rw [Hf.out, if_neg (by decide), if_neg hbig])
                  generalize decVal ds = v at *
                  go_wp2
                  go_light
                  go_ret2
                  exact ⟨by rw [HV.out]; rfl, rfl⟩
      · have HV := Lib.hid (show readNum ds = .tuple #[.int .i64 0, .int .i64 3] by unfold readNum; rw [hf]; rfl)
        rcases badForm_true hf with h0 | ⟨h0, h1⟩
        · have he : s = ByteArray.empty := by
            have h : s.data.size = 0 := by show s.size = 0; omega
            apply ByteArray.ext
            exact Array.eq_empty_of_size_eq_zero h
          subst he
          clear hf h0
          go_wp2
          go_light
          go_ret2
          exact ⟨by rw [HV.out]; rfl, rfl⟩
        · have hp' : 0 < s.size := by omega
          have hne := notEmpty hp'
          have hb1 : (((s[0]'hp').toNat : Int) == 48) = true := by rw [Hby.out 0 hp', h0]; rfl
          have h1' : 1 < s.size := by omega
          clear hf h0 h1 hsz
          go_wp2
          go_light
          go_ret2
          exact ⟨by rw [HV.out]; rfl, rfl⟩


theorem rnread_go (ds : List Nat) (w : World) (hd : ∀ c ∈ ds, isDig c = true) (hl : ds.length ≤ 140737488355328) :
    Calls Tryz.prog 151 #[.string (strOf ds), .int .i64 1000] w fun e w' => e = .returned (readNum ds) ∧ w = w' :=
  rread_s (strOf ds) ds w hd (strOf_size ds) (fun k h => strOf_byte (fun c hc => by have := (isDig_iff c).1 (hd c hc); omega) k h) hl

set_option maxHeartbeats 2000000 in
theorem rtake_at (b o cap : Nat) (bs : List Nat) (i : Nat) (w : World) (hA : BytesAt w w.heap.size (some ⟨b, o, none⟩) bs) (hcap : bs.length ≤ cap) (hi : i ≤ bs.length) :
    Calls Tryz.prog 134 #[.slice (some ⟨b, o, none⟩) bs.length cap, .int .i64 (i : Int), .int .i64 1000] w fun e w' => e = .returned (takeVal bs i) ∧ w = w' := by
  have hl := hA.2.1
  have hdl := digs_len bs i
  have Hc := Lib.hid (bytesAt_cells hA)
  have H256 := Lib.hid hA.1
  have hs : ∀ c, (convert 22 9 (.slice (some ⟨b, o + i, none⟩) (digs bs i).length c)).run Tryz.prog w = .ok (.string (strOf (digs bs i))) w := fun c => run_digs hA hi c
  have hn := rnread_go (digs bs i) w (digs_dig bs i) (by omega)
  obtain ⟨v, k, hv1, hv2, hk⟩ := takeVal_form bs i
  rw [hv1] at hn
  have Hn := Lib.hid hn
  have Hv := Lib.hid hv2
  have Hs := Lib.hid hs
  have hs0 : (convert 22 9 (.slice (some ⟨b, o, none⟩) 0 0)).run Tryz.prog w = .ok (.string (strOf [])) w := run_str w ⟨b, o, none⟩ 0 [] (by simp)
  have Hs0 := Lib.hid hs0
  clear hA hn hv1 hv2 hs hs0
  have q1 : decide ((i : Int) < 0) = false := by simp
  have q2 : decide (bs.length < i) = false := by simp; omega
  go_enter Tryz.func134, Tryz.ntmps134
  go_wp2
  go_loop [9] (fun v9 => ∃ m : Nat, v9 = .int .i64 ((i : Int) + (m : Int)) ∧ m ≤ (digs bs i).length) (fun v9 => bs.length - (intOf v9).toNat)
  case atStart => exact ⟨0, by simp, Nat.zero_le _⟩
  case round =>
    obtain ⟨m, rfl, hm⟩ := hrel
    by_cases hlt : i + m < bs.length
    · have hcell := Hc.out (i + m) hlt
      have hby := byteAt_lt H256.out (i + m)
      cases hdg : isDig (byteAt bs (i + m))
      · have Hm := Lib.hid (digs_stop hm hlt hdg)
        have Hdg := Lib.hid hdg
        clear hdg
        generalize byteAt bs (i + m) = c at *
        go_wp2_with fail
        refine (rdig_go _ _ (by omega) (by omega)).mono ?_
        rintro e w2 ⟨rfl, rfl⟩
        rw [Int.toNat_natCast, Hdg.out]
        have hs := Hs.out
        have hs0 := Hs0.out
        rw [Hm.out] at hs
        have hcl : m ≤ cap - i := by omega
        by_cases hce : cap = i
        · have hm0 : m = 0 := by omega
          have hn0 : digs bs i = [] := List.length_eq_zero_iff.1 (by have := Hm.out; omega)
          subst hm0
          rw [hn0] at Hn hs
          subst hce
          clear hs hn0
          go_wp2_with fail
          refine Hn.out.mono ?_
          rintro e w3 ⟨rfl, rfl⟩
          have hv := Hv.out
          rw [Hm.out] at hv
          rcases hk with rfl | rfl | rfl
          all_goals
            have HV := Lib.hid hv
            clear hv
            go_wp2
            go_light
            go_ret3
            exact ⟨by rw [HV.out]; first | rfl | simp, rfl⟩
        · clear hs0
          go_wp2_with fail
          refine Hn.out.mono ?_
          rintro e w3 ⟨rfl, rfl⟩
          have hv := Hv.out
          rw [Hm.out] at hv
          rcases hk with rfl | rfl | rfl
          all_goals
            have HV := Lib.hid hv
            clear hv
            go_wp2
            go_light
            go_ret3
            exact ⟨by rw [HV.out]; first | rfl | simp, rfl⟩
      · have hmore := digs_more hm hlt hdg
        have Hdg := Lib.hid hdg
        clear hdg
        generalize byteAt bs (i + m) = c at *
        go_wp2_with fail
        refine (rdig_go _ _ (by omega) (by omega)).mono ?_
        rintro e w2 ⟨rfl, rfl⟩
        rw [Int.toNat_natCast, Hdg.out]
        go_wp2
        go_light
        go_round
        case rel => exact ⟨m + 1, congrArg (Value.int .i64) (by omega), hmore⟩
        case measure => simp [intOf]; omega
    · have Hm := Lib.hid (digs_end hm (by omega))
      have hs := Hs.out
      have hs0 := Hs0.out
      rw [Hm.out] at hs
      have hcl : m ≤ cap - i := by omega
      by_cases hce : cap = i
      · have hm0 : m = 0 := by omega
        have hn0 : digs bs i = [] := List.length_eq_zero_iff.1 (by have := Hm.out; omega)
        subst hm0
        rw [hn0] at Hn hs
        subst hce
        clear hs hn0
        go_wp2_with fail
        refine Hn.out.mono ?_
        rintro e w3 ⟨rfl, rfl⟩
        have hv := Hv.out
        rw [Hm.out] at hv
        rcases hk with rfl | rfl | rfl
        all_goals
          have HV := Lib.hid hv
          clear hv
          go_wp2
          go_light
          go_ret3
          exact ⟨by rw [HV.out]; first | rfl | simp, rfl⟩
      · clear hs0
        go_wp2_with fail
        refine Hn.out.mono ?_
        rintro e w3 ⟨rfl, rfl⟩
        have hv := Hv.out
        rw [Hm.out] at hv
        rcases hk with rfl | rfl | rfl
        all_goals
          have HV := Lib.hid hv
          clear hv
          go_wp2
          go_light
          go_ret3
          exact ⟨by rw [HV.out]; first | rfl | simp, rfl⟩

end Go.Proofs.YtajohcknenngnaaGreat
