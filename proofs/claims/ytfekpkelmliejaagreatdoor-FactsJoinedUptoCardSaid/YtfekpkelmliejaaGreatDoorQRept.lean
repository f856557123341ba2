/-
  bytes.Repeat: a word, so often.
-/
import Derived.Lib.SlBuf
import Derived.Lib.RepeatB
import Derived.Lib.Mul64
import Derived.Lib.MakeNoZero
import Derived.Laws.Bits64b
import Derived.StillTailTactics
import Derived.Test.YtfekpkelmliejaaGreatDoorQZ02
import Derived.Test.YtfekpkelmliejaaGreatDoorQLstS
namespace Go.Proofs.YtfekpkelmliejaaGreatDoor
open Go.RowKit
set_option linter.unusedSimpArgs false
set_option linter.unusedVariables false
set_option maxRecDepth 100000

theorem mulMask (a : Nat) (ha : a < 18446744073709551616) : bits .and .u64 (a : Int) 4294967295 = ((a % 4294967296 : Nat) : Int) := by
  have h := bits_and_u64_nat a 4294967295 ha (by omega)
  have e : a &&& 4294967295 = a % 4294967296 := Nat.and_two_pow_sub_one_eq_mod a 32
  rw [e] at h
  exact h
theorem mulWrap (a : Nat) (ha : a < 18446744073709551616) : IntKind.u64.wrap (a : Int) = (a : Int) := by rw [IntKind.wrap_u64]; omega
/-- Numbers below 2^32 are multiplied. -/
theorem mul64_go (x y : Nat) (hx : x < 4294967296) (hy : y < 4294967296) (w : World) :
    Calls Tryz.prog 203 #[.int .u64 (x : Int), .int .u64 (y : Int)] w fun e w' => e = .returned (.tuple #[.int .u64 0, .int .u64 ((x * y : Nat) : Int)]) ∧ w = w' := by
  have hp : x * y ≤ 4294967295 * 4294967295 := Nat.mul_le_mul (by omega) (by omega)
  have b1 := Lib.hid (show bits .and .u64 (x : Int) 4294967295 = (x : Int) by rw [mulMask x (by omega)]; omega)
  have b2 := Lib.hid (show bits .and .u64 (y : Int) 4294967295 = (y : Int) by rw [mulMask y (by omega)]; omega)
  have d1 := Lib.hid (show (x : Int) / 4294967296 = 0 by omega)
  have d2 := Lib.hid (show (y : Int) / 4294967296 = 0 by omega)
  have m1 := Lib.hid (Int.natCast_mul x y).symm
  generalize x * y = q at *
  have w1 := Lib.hid (show IntKind.u64.wrap (q : Int) = (q : Int) from mulWrap q (by omega))
  have e1 := Lib.hid (show (q : Int) / 4294967296 = ((q / 4294967296 : Nat) : Int) by omega)
  have w2 := Lib.hid (show IntKind.u64.wrap ((q / 4294967296 : Nat) : Int) = ((q / 4294967296 : Nat) : Int) from mulWrap _ (by omega))
  have b3 := Lib.hid (show bits .and .u64 ((q / 4294967296 : Nat) : Int) 4294967295 = ((q / 4294967296 : Nat) : Int) by rw [mulMask _ (by omega)]; omega)
  have d3 := Lib.hid (show ((q / 4294967296 : Nat) : Int) / 4294967296 = 0 by omega)
  clear hx hy hp
  go_enter Tryz.func203, Tryz.ntmps203
  go_wp2
  simp only [b1.out, b2.out, d1.out, d2.out, m1.out, w1.out, e1.out, w2.out, b3.out, d3.out, Int.mul_zero, Int.zero_mul, Int.add_zero, Int.zero_add, show IntKind.u64.wrap 0 = 0 from by decide]
  go_ret2
  exact ⟨rfl, rfl⟩
theorem mulu_go (x y : Nat) (hx : x < 4294967296) (hy : y < 4294967296) (w : World) :
    Calls Tryz.prog 155 #[.int .u64 (x : Int), .int .u64 (y : Int)] w fun e w' => e = .returned (.tuple #[.int .u64 0, .int .u64 ((x * y : Nat) : Int)]) ∧ w = w' := by
  have HC := Lib.hid (mul64_go x y hx hy w)
  generalize x * y = q at *
  clear hx hy
  go_enter Tryz.func155, Tryz.ntmps155
  go_wp2_with fail
  refine HC.out.mono ?_
  rintro e w1 ⟨rfl, rfl⟩
  dsimp only
  go_wp2
  go_light
  go_ret2
  exact ⟨rfl, rfl⟩
theorem byte_one : (Tryz.prog.info? 5).map (·.size) = some 1 := by kernel_rfl
theorem byte_size (w : World) : (sizeOf 5).run Tryz.prog w = .ok 1 w := by kernel_rfl
theorem holds_of {w : World} {N : Nat} {A : Option Addr} {bs : List Nat} (cap : Nat) (h : BytesAt w N A bs) : Lib.HoldsBytes w (.slice A bs.length cap) (bs.map UInt8.ofNat) := by
  refine ⟨A, cap, by rw [List.length_map], fun hn => ?_, fun a ha j x hj => ?_⟩
  · by_cases h0 : bs = []
    · rw [h0]; rfl
    · obtain ⟨b, o, e, _⟩ := h.2.2 (List.length_pos_iff.2 h0)
      rw [hn] at e; cases e
  · rw [List.getElem?_map] at hj
    have hjl : j < bs.length := by
      rcases Nat.lt_or_ge j bs.length with h1 | h1
      · exact h1
      · rw [List.getElem?_eq_none h1] at hj; cases hj
    obtain ⟨b, o, e, _, hc⟩ := h.2.2 (by omega)
    rw [ha] at e
    cases e
    have e2 : (⟨b, o, none⟩ : Addr).add j = ⟨b, o + j, none⟩ := by unfold Addr.add; split <;> simp_all
    rw [e2, hc j hjl]
    rw [List.getElem?_eq_getElem hjl] at hj
    simp only [Option.map_some, Option.some.injEq] at hj
    have h256 := h.1 bs[j] (List.getElem_mem hjl)
    rw [← hj, UInt8.toNat_ofNat', Nat.mod_eq_of_lt (by simpa using h256)]
    unfold byteAt
    simp [List.getD, hjl]
/-- The buffer's head, laid behind what is filled. -/
theorem copy_self {w0 wr : World} {h N : Nat} {acc : List UInt8} (m : Nat) (hb : Lib.Buf w0 wr h N acc) (hm : m ≤ acc.length) (hfit : acc.length + m ≤ N) (hm0 : 0 < m) (n c1 c2 : Nat) (hn : Nat.min n (N - acc.length) = m) :
    ∃ wr', (Builtin.copy_ #[30, 30] 3 #[.slice (some ⟨h, acc.length, none⟩) (N - acc.length) c1, .slice (some ⟨h, 0, none⟩) n c2]).run Tryz.prog wr = .ok (.int .i64 (m : Int)) wr' ∧ Lib.Buf w0 wr' h N (acc ++ acc.take m) := by
  have hl : (acc.take m).length = m := by rw [List.length_take]; omega
  have hr := run_copy_cells (P := Tryz.prog) wr 30 30 3 5 h acc.length (N - acc.length) c1 ⟨h, 0, none⟩ n c2 ((acc.take m).map fun x => Value.int .u8 (x.toNat : Int)) Tryz.underlying30 byte_one (by rw [List.length_map, hl]; exact hn.symm)
    (fun j u hj => by
      rw [List.getElem?_map] at hj
      obtain ⟨x, hx, rfl⟩ := Option.map_eq_some_iff.1 hj
      rw [List.getElem?_take] at hx
      split at hx
      · have e2 : (⟨h, 0, none⟩ : Addr).add j = ⟨h, j, none⟩ := by unfold Addr.add; split <;> simp_all
        rw [e2]
        exact hb.holds j x hx
      · cases hx)
    (fun j hj => by rw [List.length_map, hl] at hj; exact hb.there _ (by omega)) (fun j hj => by rw [List.length_map, hl] at hj; exact hb.free _ (by omega))
    (fun u hu' => by obtain ⟨x, _, rfl⟩ := List.mem_map.1 hu'; rfl)
  rw [List.length_map, hl] at hr
  refine ⟨_, hr, ?_⟩
  have hin := World.cell?_setCells_in h ((acc.take m).map fun x => Value.int .u8 (x.toNat : Int)) acc.length wr (fun j hj => by rw [List.length_map, hl] at hj; exact hb.there _ (by omega))
  have hout := World.cell?_setCells_out h ((acc.take m).map fun x => Value.int .u8 (x.toNat : Int)) acc.length wr
  refine ⟨?_, ?_, ?_, ?_, by rw [List.length_append, hl]; exact hfit⟩
  · exact Lib.below_setCells h (Nat.le_refl _) _ _ hb.below
  · intro j hj
    by_cases h1 : acc.length ≤ j ∧ j < acc.length + m
    · obtain ⟨d, rfl⟩ : ∃ d, j = acc.length + d := ⟨j - acc.length, by omega⟩
      rw [hin d (by rw [List.length_map, hl]; omega)]
      rfl
    · rw [hout ⟨h, j, none⟩ (fun _ _ => by rw [List.length_map, hl]; show j < _ ∨ _ ≤ j; omega)]
      exact hb.there j hj
  · intro j hj
    rw [World.frozen?_setCells]
    exact hb.free j hj
  · intro j x hx
    by_cases h1 : j < acc.length
    · rw [List.getElem?_append_left h1] at hx
      rw [hout ⟨h, j, none⟩ (fun _ _ => Or.inl h1)]
      exact hb.holds j x hx
    · rw [List.getElem?_append_right (by omega)] at hx
      obtain ⟨d, rfl⟩ : ∃ d, j = acc.length + d := ⟨j - acc.length, by omega⟩
      rw [Nat.add_sub_cancel_left] at hx
      have hd : d < (acc.take m).length := (List.getElem?_eq_some_iff.1 hx).1
      rw [hin d (by rw [List.length_map]; exact hd)]
      rw [List.getElem_map, (List.getElem?_eq_some_iff.1 hx).2]
theorem step_copy_run {w : World} {ops : Array Oper} {o : Oper} {a : Act} {K : Act → World → Prop} {Q : Exit → Act → World → Prop} {E : Prop} (hgd : o.guard = none) (d s : Operand) (t t' : TypeId)
    (ho : o.op = .call { callee := .builtin .copy, args := #[d, s], argTypes := #[t, t'] }) (v u : Value) (hd : a.eval d = v) (hs : a.eval s = u) {v' : Value} {w' : World}
    (hr : (Builtin.copy_ #[t, t'] o.type #[v, u]).run Tryz.prog w = .ok v' w') (h : K (a.put o.dst v') w') : if Region.wanted o (yielded ops a.tmps) then o.wp Tryz.prog a w K Q else E := by
  rw [if_pos (by simp [Region.wanted, hgd])]
  exact Lib.wp_copy_run w d s t t' ho v u hd hs hr h
/-- A word so often. -/
def repW (n : Nat) (bs : List Nat) : List Nat := (List.replicate n bs).flatten
theorem rep_map (bs : List Nat) : ∀ n, Lib.repeatL (bs.map UInt8.ofNat) n = (repW n bs).map UInt8.ofNat
  | 0 => rfl
  | n + 1 => by rw [Lib.repeatL, rep_map bs n]; unfold repW; rw [List.replicate_succ, List.flatten_cons, List.map_append]
theorem rep_len (bs : List Nat) (n : Nat) : (repW n bs).length = n * bs.length := by
  unfold repW
  induction n with
  | zero => simp
  | succ n ih => rw [List.replicate_succ, List.flatten_cons, List.length_append, ih, Nat.succ_mul]; omega
/-- The buffer that is full. -/
theorem buf_full {w wr : World} {L : List Nat} {N : Nat} (hb : Lib.Buf w wr w.heap.size N (L.map UInt8.ofNat)) (h256 : ∀ c ∈ L, c < 256) (hl : L.length ≤ 140737488355328) (hg : w.heap.size < wr.heap.size) : BytesAt wr wr.heap.size (some ⟨w.heap.size, 0, none⟩) L :=
  ⟨h256, hl, fun _ => ⟨w.heap.size, 0, rfl, hg, fun i hi => by
    have := hb.holds i (UInt8.ofNat L[i]) (by rw [List.getElem?_map, List.getElem?_eq_getElem hi]; rfl)
    rw [Nat.zero_add, this, UInt8.toNat_ofNat', Nat.mod_eq_of_lt (by simpa using h256 L[i] (List.getElem_mem hi))]
    unfold byteAt
    simp [List.getD, hi]⟩⟩
set_option maxHeartbeats 2000000 in
theorem repeat_go (w : World) (N : Nat) (A : Option Addr) (cap : Nat) (bs : List Nat) (hA : BytesAt w N A bs) (n : Nat) (h0 : 0 < n) (h1 : n ≤ 1000) (hd : 0 < bs.length) (hT : bs.length * n ≤ 8192) :
    Calls Tryz.prog 108 #[.slice A bs.length cap, .int .i64 (n : Int)] w fun e w' => e = .returned (.slice (some ⟨w.heap.size, 0, none⟩) (repW n bs).length (repW n bs).length) ∧ BytesAt w' w'.heap.size (some ⟨w.heap.size, 0, none⟩) (repW n bs) ∧ Below w.heap.size w w' := by
  have hdT : bs.length ≤ bs.length * n := Nat.le_mul_of_pos_right _ h0
  have hH := Lib.hid (holds_of cap hA)
  have h256 := Lib.hid (flat_bytes (L := List.replicate n bs) (fun w hw => by rw [List.eq_of_mem_replicate hw]; exact hA.1))
  have HL := Lib.hid (rep_len bs n)
  have HM := Lib.hid (rep_map bs n)
  have HU := Lib.hid (mulu_go bs.length n (by omega) (by omega) w)
  have HTD := Lib.hid (Nat.mul_comm bs.length n)
  generalize hTd : bs.length * n = T at *
  have HTT := Lib.hid hTd
  clear hTd
  obtain ⟨cs, hrunM, hle, _⟩ := Lib.run_makeNoZero (P := Tryz.prog) w #[3] 30 5 Tryz.underlying30 T (by omega)
  have hcall : (callFunc 156 #[.int .i64 (T : Int)]).run Tryz.prog w = .ok (.value (.slice (some ⟨w.heap.size, 0, none⟩) T cs.size)) ((w.alloc (.cells cs 5)).drewN 2) := by
    rw [run_callFunc_extern Tryz.func156 (by kernel_rfl) (by kernel_rfl) (by kernel_rfl) (e := Extern.BytealgMakeNoZero.makeNoZero #[3] #[30]) (by kernel_rfl), hrunM]
    rfl
  have B0 := Lib.Buf.start w cs 5 T 2 hle
  have hml : (bs.map UInt8.ofNat).length = bs.length := List.length_map ..
  obtain ⟨w1, hr1, B1⟩ := Lib.copy_part (P := Tryz.prog) w _ w.heap.size T [] (bs.map UInt8.ofNat) (.slice A bs.length cap) 30 3 5 Tryz.underlying30 byte_one (Nat.le_refl _) B0 hH.out (by rw [hml]; simp; omega)
  rw [List.length_nil, Lib.tailV_zero, hml] at hr1
  rw [List.nil_append] at B1
  have HB1 := Lib.hid B1
  have hcs : (T : Int) ≤ (cs.size : Int) := by omega
  have hw1 : IntKind.u64.wrap (bs.length : Int) = (bs.length : Int) := mulWrap _ (by omega)
  have hw2 : IntKind.u64.wrap (n : Int) = (n : Int) := mulWrap _ (by omega)
  have hn0 : ((n : Int) == 0) = false := by rw [beq_eq_false_iff_ne]; omega
  have hd0 : ((bs.length : Int) == 0) = false := by rw [beq_eq_false_iff_ne]; omega
  clear hA hrunM B0 B1
  generalize hbl : bs.length = d at *
  have HBL := Lib.hid hbl
  clear hbl hml
  go_enter Tryz.func108, Tryz.ntmps108
  go_wp2_with fail
  refine HU.out.mono ?_
  rintro e w2 ⟨rfl, rfl⟩
  have hTc : ¬ ((8192 : Int) < (T : Int)) := by omega
  have HD := Lib.hid hd
  clear hdT hd HU
  dsimp only
  go_wp2_with (at_builtin; refine Lib.wpList_copy_run _ rfl _ _ 30 30 rfl _ _ rfl rfl hr1 ?_)
  clear hcall hr1 hw1 hw2 hn0 hd0 hcs hTc
  go_loopw [10] (fun v wr => ∃ (q b : Nat), v = .int .i64 (b : Int) ∧ b ≤ T ∧ Hid (b = q * d ∧ 1 ≤ q ∧ q ≤ n) ∧ Hid (Lib.Buf w wr w.heap.size T (Lib.repeatL (bs.map UInt8.ofNat) q))) (fun v _ => T - (intOf v).toNat)
  case atStart => exact ⟨1, d, rfl, by have := HTT.out; rw [← this]; exact Nat.le_mul_of_pos_right _ h0, Lib.hid ⟨by omega, Nat.le_refl _, h0⟩, Lib.hid (by rw [Lib.repeatL_one]; exact HB1.out)⟩
  case round =>
    obtain ⟨q, b, rfl, hb, HQ, HB⟩ := hrel
    by_cases hlt : b < T
    · have hdl : (b : Int) < (T : Int) := by omega
      have hble : (b : Int) ≤ (T : Int) := by omega
      have hmn : min (b : Int) (T : Int) = (b : Int) := by omega
      go_upto_region 20 with fail
      have hacc : (Lib.repeatL (bs.map UInt8.ofNat) q).length = b := by rw [Lib.repeatL_length, List.length_map, HBL.out]; exact HQ.out.1.symm
      have hmin : ∃ k, 1 ≤ k ∧ k ≤ q ∧ q + k ≤ n ∧ min b (T - b) = k * d := by
        obtain ⟨h1, h2, h3⟩ := HQ.out
        have hqn : q < n := by
          rcases Nat.lt_or_ge q n with h | h
          · exact h
          · exfalso
            have := Nat.mul_le_mul_right d h
            have := HTD.out
            omega
        refine ⟨min (n - q) q, by omega, by omega, by omega, ?_⟩
        rw [HTD.out, h1, ← Nat.sub_mul, Lib.min_mul, Nat.min_comm]
      obtain ⟨k, hk1, hkq, hkn, hkm⟩ := hmin
      have HBd : Lib.Buf w wr.drew w.heap.size T (Lib.repeatL (bs.map UInt8.ofNat) q) := ⟨HB.out.below.drew, HB.out.there, HB.out.free, HB.out.holds, HB.out.fits⟩
      obtain ⟨w4, hr4, hB4⟩ := copy_self (k * d) HBd (by rw [hacc, HQ.out.1]; exact Nat.mul_le_mul_right d hkq) (by rw [hacc]; omega) (Nat.mul_pos hk1 HD.out) b (T - b) T (by rw [hacc]; exact hkm)
      rw [hacc] at hr4
      have hB5 : Lib.Buf w w4 w.heap.size T (Lib.repeatL (bs.map UInt8.ofNat) (q + k)) := by
        rw [← Lib.step_ok _ q k hkq, List.length_map, HBL.out]
        exact hB4
      have HB5 := Lib.hid hB5
      have HQ5 := Lib.hid (show b + k * d = (q + k) * d ∧ 1 ≤ q + k ∧ q + k ≤ n from ⟨by rw [Nat.add_mul, ← HQ.out.1], by omega, hkn⟩)
      have hkd : 0 < k * d ∧ b + k * d ≤ T := ⟨Nat.mul_pos hk1 HD.out, by omega⟩
      clear hB4 hB5 HQ hacc hkm hkn hkq hk1 HB HBd
      generalize k * d = kd at *
      have hsl1 : ∀ W, (Instr.slice 30 (.slice (some ⟨w.heap.size, 0, none⟩) T T) (some (.int .i64 (b : Int))) none none).run Tryz.prog W = .ok (.slice (some ⟨w.heap.size, b, none⟩) (T - b) (T - b)) W := fun W => by
        have := Lib.run_slice_tailV (P := Tryz.prog) W 30 5 Tryz.underlying30 byte_size w.heap.size T b hb
        rw [this]
        unfold Lib.tailV
        rw [if_neg (by omega)]
      have hwb : IntKind.i64.wrap ((b : Int) + (kd : Int)) = ((b + kd : Nat) : Int) := by rw [IntKind.wrap_i64]; omega
      go_region_law (refine step_copy_run rfl (.tmp 70) (.tmp 73) 30 30 rfl (.slice (some ⟨w.heap.size, b, none⟩) (T - b) (T - b)) (.slice (some ⟨w.heap.size, 0, none⟩) b T) (by simp [Act.eval, Act.put]) (by simp [Act.eval, Act.put]) hr4 ?_)
      clear hr4 hsl1 hmn
      simp only [Act.put, List.getElem_toArray, List.getElem_cons_zero, List.getElem_cons_succ, List.setIfInBounds_toArray, List.set_cons_zero, List.set_cons_succ]
      go_light
      go_roundw
      case rel => exact ⟨_, _, _, _, _, _, _, _, _, _, _, _, _, _, _, _, _, ⟨q + k, b + kd, rfl, hkd.2, HQ5, HB5⟩, rfl⟩
      case measure => simp [hwb, intOf]; omega
    · have hdl : ¬ (b : Int) < (T : Int) := by omega
      obtain rfl : b = T := by omega
      obtain rfl : q = n := by
        obtain ⟨h1, h2, h3⟩ := HQ.out
        have h4 := HTD.out
        rw [h1] at h4
        exact Nat.eq_of_mul_eq_mul_right HD.out h4
      have HZ := Lib.hid (HL.out.trans HTD.out.symm)
      have HF := Lib.hid HB.out.below
      rw [HM.out] at HB
      have HG := Lib.hid (show BytesAt wr wr.heap.size (some ⟨w.heap.size, 0, none⟩) (repW q bs) from buf_full HB.out h256.out (by rw [HZ.out]; omega) (World.block_lt_of_cell? wr ⟨w.heap.size, 0, none⟩ (HB.out.holds 0 _ (by rw [List.getElem?_map, List.getElem?_eq_getElem (by have := HZ.out; have := HTD.out; have := Nat.mul_pos h0 HD.out; omega)]; rfl))))
      go_wp2
      go_light
      go_ret
      exact ⟨by rw [HZ.out]; rfl, HG.out, HF.out⟩
theorem repW_nil (n : Nat) : repW n [] = [] := by
  unfold repW
  induction n with
  | zero => rfl
  | succ n ih => rw [List.replicate_succ, List.flatten_cons, ih]; rfl
set_option maxHeartbeats 1000000 in
theorem repeat0_go (w : World) (A : Option Addr) (cap : Nat) (n : Nat) (h0 : 0 < n) (h1 : n ≤ 1000) :
    Calls Tryz.prog 108 #[.slice A 0 cap, .int .i64 (n : Int)] w fun e w' => (∃ g, e = .returned (.slice (some ⟨g, 0, none⟩) 0 0)) ∧ Below w.heap.size w w' := by
  have HU := Lib.hid (mulu_go 0 n (by omega) (by omega) w)
  have hw2 : IntKind.u64.wrap (n : Int) = (n : Int) := mulWrap _ (by omega)
  have hn0 : ((n : Int) == 0) = false := by rw [beq_eq_false_iff_ne]; omega
  have HB := Lib.hid (show Below w.heap.size w (w.alloc (.cells #[] 5)) from (Below.refl _ _).alloc (Nat.le_refl _) _)
  rw [Nat.zero_mul] at HU
  go_enter Tryz.func108, Tryz.ntmps108
  go_wp2_with fail
  refine HU.out.mono ?_
  rintro e w2 ⟨rfl, rfl⟩
  clear HU
  dsimp only
  go_wp2
  go_light
  go_ret
  exact ⟨⟨_, rfl⟩, HB.out⟩
end Go.Proofs.YtfekpkelmliejaaGreatDoor
