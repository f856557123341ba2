/-
  The contract of Split. The contract of the reader's head: a line's name.
-/
import Derived.Test.YtajohcknenngnaaGreatQNext
import Derived.Test.YtajohcknenngnaaGreatQRefEsc
import Derived.Test.YtajohcknenngnaaGreatQZ02
namespace Go.Proofs.YtajohcknenngnaaGreat
open Go.RowKit
set_option linter.unusedSimpArgs false
set_option linter.unusedVariables false
set_option maxRecDepth 100000

theorem ret_split {fn : Func} {t4 t6 : Tmp} (h : fn.results = #[.tmp t4, .cell t6 26]) {tmps : Array Value} {w : World} {g' : Nat} {x y c : Value}
    (hc : tmps.getD t4 undef = c) (hp' : tmps.getD t6 undef = .pointer (some ⟨g', 0, none⟩)) (hb' : Blk w g' 26 #[x, y]) :
    (results fn tmps).run Tryz.prog w = .ok (.tuple #[c, .agg #[x, y]]) w := by
  have h2 := run_loadVar_row (P := Tryz.prog) w g' 26 26 #[x, y] (0, 0) _ hb' Tryz.underlying26 rfl (by kernel_rfl)
  simp only [results, h]
  simp only [Array.getD_eq_getD_getElem?] at hc hp'
  simp [Sem.run_bind, hc, hp', asAddr, h2, Result.andThen]

theorem own_mono {w : World} {base base' size n : Nat} {e : TypeId} {v : Value} {xs : List Value} (h : w.ownsRow base e size v n xs) (hb : base' ≤ base) : w.ownsRow base' e size v n xs := by
  obtain ⟨h1, h2 | ⟨g, cap, cur, e1, e2, h3⟩⟩ := h
  · exact ⟨h1, .inl h2⟩
  · exact ⟨h1, .inr ⟨g, cap, cur, e1, Nat.le_trans hb e2, h3⟩⟩
/-- What a splitting gives. -/
def Cuts (r : Except Wrong (List Lex)) (w : World) (e : Ending) (w' : World) : Prop :=
  match r with
  | .ok l => ∃ v, e = .returned (.tuple #[v, .agg #[.int .i64 0, .int .i64 0]]) ∧ Below w.heap.size w w' ∧ w'.ownsRow w.heap.size 93 8 v l.length (lexCells l)
  | .error (k, q) => e = .returned (.tuple #[.slice none 0 0, .agg #[.int .i64 k, .int .i64 q]]) ∧ Below w.heap.size w w'

set_option maxHeartbeats 1000000 in
theorem split_long (A : Option Addr) (cap : Nat) (bs : List Nat) (w : World) (hlen : 65536 < bs.length) (hmax : bs.length ≤ 140737488355328) :
    Calls Tryz.prog 42 #[.slice A bs.length cap] w (Cuts (splitS bs) w) := by
  have hd : decide ((65536 : Int) < (bs.length : Int)) = true := by simp; omega
  have hd' : (65536 : Int) < (bs.length : Int) := by omega
  have Hb := Lib.hid (Blk.new w 26 #[.int .i64 0, .int .i64 0])
  obtain ⟨b0, b1, x0, x1⟩ := Hb.out.c2
  rw [splitS_long hlen]
  clear hlen
  go_enter Tryz.func42, Tryz.ntmps42
  go_wp2
  go_light
  refine bodyPost_ret (ret_split Tryz.results42 rfl rfl (Blk.new w 26 #[.int .i64 4, .int .i64 65536])) rfl ⟨rfl, (Below.refl w.heap.size w).alloc (Nat.le_refl _) _⟩

set_option maxHeartbeats 1000000 in
theorem split_none (A : Option Addr) (cap : Nat) (w : World) :
    Calls Tryz.prog 42 #[.slice A 0 cap] w (Cuts (splitS []) w) := by
  have Hb := Lib.hid ((Blk.new w 26 #[.int .i64 0, .int .i64 0]).alloc (.cells #[.slice A 0 cap, .int .i64 0, .slice none 0 0, .int .i64 0, .int .i64 0] 107))
  have hs : Blk ((w.alloc (.cells #[.int .i64 0, .int .i64 0] 26)).alloc (.cells #[.slice A 0 cap, .int .i64 0, .slice none 0 0, .int .i64 0, .int .i64 0] 107)) (w.heap.size + 1) 107 #[.slice A 0 cap, .int .i64 0, .slice none 0 0, .int .i64 0, .int .i64 0] := Blk.new_at (by simp)
  obtain ⟨b0, b1, x0, x1⟩ := Hb.out.c2
  have s1 := hs.cell 1
  have s2 := hs.cell 2
  have HB := Lib.hid (((Below.refl w.heap.size w).alloc (Nat.le_refl _) (.cells #[.int .i64 0, .int .i64 0] 26)).alloc (by simp) (.cells #[.slice A 0 cap, .int .i64 0, .slice none 0 0, .int .i64 0, .int .i64 0] 107))
  clear hs
  rw [splitS_go (bs := []) (by simp), splitF_end (by simp)]
  go_enter Tryz.func42, Tryz.ntmps42
  go_wp2
  go_loopw [16] (fun v16 wr => wr = ((w.alloc (.cells #[.int .i64 0, .int .i64 0] 26)).alloc (.cells #[.slice A 0 cap, .int .i64 0, .slice none 0 0, .int .i64 0, .int .i64 0] 107))) (fun _ wr => 0)
  case atStart => rfl
  case round =>
    obtain rfl := hrel
    go_wp2
    go_light
    refine bodyPost_ret (ret_split Tryz.results42 rfl rfl Hb.out) rfl ⟨_, rfl, HB.out, World.ownsRow_nil _ _ _ _⟩

set_option maxHeartbeats 4000000 in
theorem split_some (b o cap : Nat) (bs : List Nat) (w : World) (hA : BytesAt w w.heap.size (some ⟨b, o, none⟩) bs) (hcap : bs.length ≤ cap) (hlen : bs.length ≤ 65536) (h0 : 0 < bs.length) :
    Calls Tryz.prog 42 #[.slice (some ⟨b, o, none⟩) bs.length cap] w (Cuts (splitS bs) w) := by
  have hl := hA.2.1
  have hb := hA.1
  have hd : decide ((65536 : Int) < (bs.length : Int)) = false := by simp; omega
  have hd' : ¬ (65536 : Int) < (bs.length : Int) := by omega
  have Hb0 := Lib.hid ((Blk.new w 26 #[.int .i64 0, .int .i64 0]).alloc (.cells #[.slice (some ⟨b, o, none⟩) bs.length cap, .int .i64 0, .slice none 0 0, .int .i64 0, .int .i64 0] 107))
  have hS0 : Spl ((w.alloc (.cells #[.int .i64 0, .int .i64 0] 26)).alloc (.cells #[.slice (some ⟨b, o, none⟩) bs.length cap, .int .i64 0, .slice none 0 0, .int .i64 0, .int .i64 0] 107)) (w.heap.size + 1) b o bs.length cap 0 (.slice none 0 0) 0 0 := Blk.new_at (by simp)
  have HS0 := Lib.hid hS0
  have HB0 := Lib.hid (((Below.refl w.heap.size w).alloc (Nat.le_refl _) (.cells #[.int .i64 0, .int .i64 0] 26)).alloc (by simp) (.cells #[.slice (some ⟨b, o, none⟩) bs.length cap, .int .i64 0, .slice none 0 0, .int .i64 0, .int .i64 0] 107))
  have HA0 := Lib.hid ((hA.below HB0.out).more (Nat.le_succ _))
  have hz0 : (((w.alloc (.cells #[.int .i64 0, .int .i64 0] 26)).alloc (.cells #[.slice (some ⟨b, o, none⟩) bs.length cap, .int .i64 0, .slice none 0 0, .int .i64 0, .int .i64 0] 107))).heap.size = w.heap.size + 2 := by simp
  have hR0 : w.heap.size < (((w.alloc (.cells #[.int .i64 0, .int .i64 0] 26)).alloc (.cells #[.slice (some ⟨b, o, none⟩) bs.length cap, .int .i64 0, .slice none 0 0, .int .i64 0, .int .i64 0] 107))).heap.size := by omega
  clear hA
  obtain ⟨s0, s1, s2, s3, s4, f0, f1, f2, f3, f4⟩ := hS0.cells
  clear hS0
  go_enter Tryz.func42, Tryz.ntmps42
  go_wp2
  go_loopw [16] (fun v16 wr => ∃ (i f : Nat) (v : Value) (L : List Lex), i ≤ bs.length ∧ L.length ≤ i ∧ bs.length < i + f ∧ splitF bs f i L = splitS bs ∧ Spl wr (w.heap.size + 1) b o bs.length cap i v 0 0 ∧ wr.ownsRow (w.heap.size + 1) 93 8 v L.length (lexCells L) ∧ Below (w.heap.size + 1) ((w.alloc (.cells #[.int .i64 0, .int .i64 0] 26)).alloc (.cells #[.slice (some ⟨b, o, none⟩) bs.length cap, .int .i64 0, .slice none 0 0, .int .i64 0, .int .i64 0] 107)) wr) (fun _ wr => bs.length - (intOf ((wr.cell? ⟨w.heap.size + 1, 1, none⟩).getD undef)).toNat)
  case atStart => exact ⟨0, bs.length + 1, _, [], by omega, by simp, by omega, (splitS_go hlen).symm, HS0.out, World.ownsRow_nil _ _ _ _, Below.refl _ _⟩
  case round =>
    obtain ⟨i, f, v, L, hi, hL, hf, hF, hS, hrow, hB⟩ := hrel
    obtain ⟨t0, t1, t2, t3, t4, g0, g1, g2, g3, g4⟩ := hS.cells
    have hbr := Hb0.out.below hB (by omega)
    obtain ⟨r0, r1, e0, e1⟩ := hbr.c2
    have hsz := hB.size
    by_cases hlt : i < bs.length
    · have HG := Lib.hid (next_go (w.heap.size + 1) b o cap bs i v (w.heap.size + 1) L wr hS hrow (Nat.le_refl _) (by omega) (HA0.out.below hB) hlt hcap hlen)
      have hdl : (i : Int) < (bs.length : Int) := by omega
      have Hbr := Lib.hid hbr
      have HB := Lib.hid hB
      have HF := Lib.hid hF
      obtain ⟨f, rfl⟩ : ∃ f', f = f' + 1 := ⟨f - 1, by omega⟩
      clear hS hrow hB hbr hF r0 r1 e0 e1 t2 t3 t4
      cases hx : lexS bs i with
      | error x =>
        obtain ⟨k, q⟩ := x
        have hk0 : (k != 0) = true := by rw [bne_iff_ne]; exact lexS_err hb hx
        have HV := Lib.hid (show splitS bs = .error (k, q) by rw [← HF.out]; exact splitF_bad hlt hx)
        have Hx := Lib.hid hx
        clear hx
        go_wp2_with fail
        refine HG.out.mono ?_
        intro e w1 hs
        unfold Stepped at hs
        rw [Hx.out] at hs
        obtain ⟨rfl, hb1, i1, v1, hS1⟩ := hs
        obtain ⟨u0, u1, u2, u3, u4, g0, g1, g2, g3, g4⟩ := hS1.cells
        have hbr1 := Hbr.out.below hb1 (by omega)
        obtain ⟨r0, r1, e0, e1⟩ := hbr1.c2
        have Hbr1 := Lib.hid hbr1
        have HB1 := Lib.hid (HB.out.trans hb1)
        clear hb1 hS1 hbr1
        go_wp2
        go_region
        all_goals go_wp2
        all_goals go_light
        all_goals rw [HV.out]
        refine bodyPost_ret (ret_split Tryz.results42 rfl rfl Hbr1.out.drew.set2) rfl ⟨rfl, below_set2 (HB0.out.trans (HB1.out.mono (Nat.le_succ _))).drew (Nat.le_refl _) _ _⟩
      | ok x =>
        obtain ⟨x, j⟩ := x
        have hj := lexS_some hb hlt hx
        have HV := Lib.hid (show splitF bs f j (L ++ [x]) = splitS bs by rw [← HF.out]; exact (splitF_ok hlt hx).symm)
        have Hx := Lib.hid hx
        clear hx
        go_wp2_with fail
        refine HG.out.mono ?_
        intro e w1 hs
        unfold Stepped at hs
        rw [Hx.out] at hs
        obtain ⟨rfl, hb1, v1, hS1, hrow1⟩ := hs
        obtain ⟨u0, u1, u2, u3, u4, g0, g1, g2, g3, g4⟩ := hS1.cells
        have HS1 := Lib.hid hS1
        have HR1 := Lib.hid hrow1
        have HB1 := Lib.hid (HB.out.trans hb1)
        clear hb1 hS1 hrow1
        go_wp2
        go_roundw
        case rel => exact ⟨j, f, v1, L ++ [x], hj.2, by simp; omega, by omega, HV.out, HS1.out, by simpa using HR1.out, HB1.out⟩
        case measure => rw [t1, u1]; simp [intOf]; omega
    · have HV := Lib.hid (show splitS bs = .ok L by rw [← hF]; obtain ⟨f, rfl⟩ : ∃ f', f = f' + 1 := ⟨f - 1, by omega⟩; exact splitF_end (by omega))
      have hdl : ¬ (i : Int) < (bs.length : Int) := by omega
      have Hbr := Lib.hid hbr
      have HB := Lib.hid hB
      have HS := Lib.hid hS
      have Hrow := Lib.hid hrow
      have Hne := Lib.hid (blk_not_row hbr (by decide) hrow)
      clear hS hrow hB hbr hF
      go_wp2
      go_light
      rw [HV.out]
      refine bodyPost_ret (ret_split Tryz.results42 rfl rfl Hbr.out.set2) rfl ⟨v, rfl, below_set2 (HB0.out.trans (HB.out.mono (Nat.le_succ _))) (Nat.le_refl _) _ _, own_set (own_set (own_mono Hrow.out (Nat.le_succ _)) Hne.out) Hne.out⟩
theorem split_go (A : Option Addr) (cap : Nat) (bs : List Nat) (w : World) (hA : BytesAt w w.heap.size A bs) (hcap : bs.length ≤ cap) :
    Calls Tryz.prog 42 #[.slice A bs.length cap] w (Cuts (splitS bs) w) := by
  rcases Nat.eq_zero_or_pos bs.length with h0 | h0
  · obtain rfl : bs = [] := List.length_eq_zero_iff.mp h0
    exact split_none A cap w
  rcases Nat.lt_or_ge 65536 bs.length with h | h
  · exact split_long A cap bs w h hA.2.1
  obtain ⟨b, o, rfl, _, _⟩ := hA.2.2 h0
  exact split_some b o cap bs w hA hcap h h0

end Go.Proofs.YtajohcknenngnaaGreat
namespace Go.Proofs.YtajohcknenngnaaGreat
open Go.RowKit Go.Maps
set_option linter.unusedSimpArgs false
set_option linter.unusedVariables false
set_option maxRecDepth 100000

/-- A name, or what is wrong. -/
def HeadOut (r : Except Wrong (List Nat)) (w : World) (e : Ending) (w' : World) : Prop :=
  (match r with
  | .ok n => e = .returned (.tuple #[.string (strOf n), .agg #[.int .i64 0, .int .i64 0]])
  | .error (k, q) => e = .returned (.tuple #[.string (strOf []), .agg #[.int .i64 k, .int .i64 q]])) ∧ Below w.heap.size w w'
/-- The reader's block. -/
def RdrAt (w : World) (S : Nat) (Ar : Option Addr) (n capr M : Nat) : Prop := Blk w S 52 #[.slice Ar n capr, .map (some M)]
theorem str_run (w : World) (b o n cap : Nat) (bs : List Nat) (hn : n ≤ bs.length) (hc : ∀ i, i < bs.length → w.cell? ⟨b, o + i, none⟩ = some (.int .u8 ((byteAt bs i : Nat) : Int))) :
    (convert 22 9 (.slice (some ⟨b, o, none⟩) n cap)).run Tryz.prog w = .ok (.string (strOf (bs.take n))) w := by
  have h := run_str w ⟨b, o, none⟩ cap (bs.take n) (fun j u hu => by
    have hj : j < n := by
      have := (List.getElem?_eq_some_iff.mp hu).1
      simp at this
      omega
    rw [List.getElem?_map, List.getElem?_take_of_lt hj, List.getElem?_eq_getElem (by omega), byteAt_get (by omega)] at hu
    simp at hu
    rw [Go.WideShapes.add_plain, hc j (by omega), hu])
  rw [List.length_take, Nat.min_eq_left hn] at h
  exact h

set_option maxHeartbeats 2000000 in
theorem head_many (S M B : Nat) (Ar A : Option Addr) (capr cap : Nat) (rs : List RuleS) (bs : List Nat) (w : World) (hS : RdrAt w S Ar rs.length capr M) (hA : BytesAt w B A bs) (hB : B ≤ w.heap.size) (h64 : rs.length = 64) :
    Calls Tryz.prog 36 #[.pointer (some ⟨S, 0, none⟩), .slice A bs.length cap] w (HeadOut (headS rs bs) w) := by
  have HV := Lib.hid (show headS rs bs = .error (18, 0) by unfold headS; rw [if_pos h64])
  have hlen := hA.2.1
  have hrl := runS_le bs
  have hA1 : BytesAt (w.alloc (.cells #[.int .i64 0, .int .i64 0] 26)) B A bs := hA.below ((Below.refl B w).alloc hB _)
  have HR := Lib.hid (srun_go A cap bs B (w.alloc (.cells #[.int .i64 0, .int .i64 0] 26)) hA1)
  have hS' := Blk.alloc hS (.cells #[.int .i64 0, .int .i64 0] 26)
  have s0 : (w.alloc (.cells #[.int .i64 0, .int .i64 0] 26)).cell? ⟨S, 0, none⟩ = some (.slice Ar rs.length capr) := Blk.cell hS' 0
  have s1 : (w.alloc (.cells #[.int .i64 0, .int .i64 0] 26)).cell? ⟨S, 1, none⟩ = some (.map (some M)) := Blk.cell hS' 1

  have hd : ((rs.length : Int) == 64) = true := by rw [beq_iff_eq]; omega
  clear hS hA h64 hS'
  go_enter Tryz.func36, Tryz.ntmps36
  go_wp2_with ((with_reducible refine HR.out.mono ?_); rintro e w' ⟨rfl, rfl⟩)
  exact bodyPost_ret (ret_split (c := .string (strOf [])) Tryz.results36 rfl rfl (Blk.new _ _ _)) rfl ⟨by rw [HV.out], (Below.refl _ _).alloc (Nat.le_refl _) _⟩
set_option maxHeartbeats 2000000 in
theorem head_none (S M B : Nat) (Ar A : Option Addr) (capr cap : Nat) (rs : List RuleS) (bs : List Nat) (w : World) (hS : RdrAt w S Ar rs.length capr M) (hA : BytesAt w B A bs) (hB : B ≤ w.heap.size) (h64 : rs.length < 64) (h0 : runS bs = 0) :
    Calls Tryz.prog 36 #[.pointer (some ⟨S, 0, none⟩), .slice A bs.length cap] w (HeadOut (headS rs bs) w) := by
  have HV := Lib.hid (show headS rs bs = .error (9, 0) by unfold headS; rw [if_neg (by omega), if_pos h0])
  have hlen := hA.2.1
  have hrl := runS_le bs
  have hA1 : BytesAt (w.alloc (.cells #[.int .i64 0, .int .i64 0] 26)) B A bs := hA.below ((Below.refl B w).alloc hB _)
  have HR := Lib.hid (srun_go A cap bs B (w.alloc (.cells #[.int .i64 0, .int .i64 0] 26)) hA1)
  have hS' := Blk.alloc hS (.cells #[.int .i64 0, .int .i64 0] 26)
  have s0 : (w.alloc (.cells #[.int .i64 0, .int .i64 0] 26)).cell? ⟨S, 0, none⟩ = some (.slice Ar rs.length capr) := Blk.cell hS' 0
  have s1 : (w.alloc (.cells #[.int .i64 0, .int .i64 0] 26)).cell? ⟨S, 1, none⟩ = some (.map (some M)) := Blk.cell hS' 1

  have hd : ((rs.length : Int) == 64) = false := by rw [beq_eq_false_iff_ne]; omega
  rw [h0] at HR
  clear hS hA hA1 h64 hS' h0 hrl
  go_enter Tryz.func36, Tryz.ntmps36
  go_wp2_with ((with_reducible refine HR.out.mono ?_); rintro e w' ⟨rfl, rfl⟩)
  exact bodyPost_ret (ret_split (c := .string (strOf [])) Tryz.results36 rfl rfl (Blk.new _ _ _)) rfl ⟨by rw [HV.out], (Below.refl _ _).alloc (Nat.le_refl _) _⟩
set_option maxHeartbeats 2000000 in
theorem head_long (S M B : Nat) (Ar A : Option Addr) (capr cap : Nat) (rs : List RuleS) (bs : List Nat) (w : World) (hS : RdrAt w S Ar rs.length capr M) (hA : BytesAt w B A bs) (hB : B ≤ w.heap.size) (h64 : rs.length < 64) (h0 : 32 < runS bs) :
    Calls Tryz.prog 36 #[.pointer (some ⟨S, 0, none⟩), .slice A bs.length cap] w (HeadOut (headS rs bs) w) := by
  have HV := Lib.hid (show headS rs bs = .error (9, 32) by unfold headS; rw [if_neg (by omega), if_neg (by omega), if_pos h0])
  have hlen := hA.2.1
  have hrl := runS_le bs
  have hA1 : BytesAt (w.alloc (.cells #[.int .i64 0, .int .i64 0] 26)) B A bs := hA.below ((Below.refl B w).alloc hB _)
  have HR := Lib.hid (srun_go A cap bs B (w.alloc (.cells #[.int .i64 0, .int .i64 0] 26)) hA1)
  have hS' := Blk.alloc hS (.cells #[.int .i64 0, .int .i64 0] 26)
  have s0 : (w.alloc (.cells #[.int .i64 0, .int .i64 0] 26)).cell? ⟨S, 0, none⟩ = some (.slice Ar rs.length capr) := Blk.cell hS' 0
  have s1 : (w.alloc (.cells #[.int .i64 0, .int .i64 0] 26)).cell? ⟨S, 1, none⟩ = some (.map (some M)) := Blk.cell hS' 1

  have hd : ((rs.length : Int) == 64) = false := by rw [beq_eq_false_iff_ne]; omega
  have hd0 : (((runS bs : Nat) : Int) == 0) = false := by rw [beq_eq_false_iff_ne]; omega
  clear hS hA hA1 h64 hS' hrl
  generalize runS bs = n at *
  go_enter Tryz.func36, Tryz.ntmps36
  go_wp2_with ((with_reducible refine HR.out.mono ?_); rintro e w' ⟨rfl, rfl⟩)
  exact bodyPost_ret (ret_split (c := .string (strOf [])) Tryz.results36 rfl rfl (Blk.new _ _ _)) rfl ⟨by rw [HV.out], (Below.refl _ _).alloc (Nat.le_refl _) _⟩
set_option maxHeartbeats 2000000 in
theorem head_colon (S M B : Nat) (Ar A : Option Addr) (capr cap : Nat) (rs : List RuleS) (bs : List Nat) (w : World) (hS : RdrAt w S Ar rs.length capr M) (hA : BytesAt w B A bs) (hB : B ≤ w.heap.size) (h64 : rs.length < 64) (h0 : runS bs ≠ 0) (h32 : runS bs ≤ 32) (hc : runS bs = bs.length ∨ byteAt bs (runS bs) ≠ 58) :
    Calls Tryz.prog 36 #[.pointer (some ⟨S, 0, none⟩), .slice A bs.length cap] w (HeadOut (headS rs bs) w) := by
  have HV := Lib.hid (show headS rs bs = .error (10, (runS bs : Nat)) by unfold headS; rw [if_neg (by omega), if_neg h0, if_neg (by omega), if_pos hc])
  have hlen := hA.2.1
  have hrl := runS_le bs
  have hA1 : BytesAt (w.alloc (.cells #[.int .i64 0, .int .i64 0] 26)) B A bs := hA.below ((Below.refl B w).alloc hB _)
  have HR := Lib.hid (srun_go A cap bs B (w.alloc (.cells #[.int .i64 0, .int .i64 0] 26)) hA1)
  have hS' := Blk.alloc hS (.cells #[.int .i64 0, .int .i64 0] 26)
  have s0 : (w.alloc (.cells #[.int .i64 0, .int .i64 0] 26)).cell? ⟨S, 0, none⟩ = some (.slice Ar rs.length capr) := Blk.cell hS' 0
  have s1 : (w.alloc (.cells #[.int .i64 0, .int .i64 0] 26)).cell? ⟨S, 1, none⟩ = some (.map (some M)) := Blk.cell hS' 1

  have hd : ((rs.length : Int) == 64) = false := by rw [beq_eq_false_iff_ne]; omega
  have hd0 : (((runS bs : Nat) : Int) == 0) = false := by rw [beq_eq_false_iff_ne]; omega
  by_cases he : runS bs = bs.length
  · rw [he] at HR hd0 h32 HV
    clear hS hA hA1 h64 hS' hrl hc he h0
    go_enter Tryz.func36, Tryz.ntmps36
    go_wp2_with ((with_reducible refine HR.out.mono ?_); rintro e w' ⟨rfl, rfl⟩)
    exact bodyPost_ret (ret_split (c := .string (strOf [])) Tryz.results36 rfl rfl (Blk.new _ _ _)) rfl ⟨by rw [HV.out], (Below.refl _ _).alloc (Nat.le_refl _) _⟩
  · have hlt : runS bs < bs.length := by omega
    obtain ⟨b, o, rfl, hcell, hb⟩ := hA1.one hlt
    have h58 : byteAt bs (runS bs) ≠ 58 := by rcases hc with hc | hc; exact absurd hc he; exact hc
    have h58 : (((byteAt bs (runS bs) : Nat) : Int) != 58) = true := by rw [bne_iff_ne]; omega
    have hne : (((runS bs : Nat) : Int) == ((bs.length : Nat) : Int)) = false := by rw [beq_eq_false_iff_ne]; omega
    clear hS hA hA1 h64 hS' hrl hc he h0
    generalize byteAt bs (runS bs) = c at *
    generalize runS bs = n at *
    go_enter Tryz.func36, Tryz.ntmps36
    go_wp2_with ((with_reducible refine HR.out.mono ?_); rintro e w' ⟨rfl, rfl⟩)
    exact bodyPost_ret (ret_split (c := .string (strOf [])) Tryz.results36 rfl rfl (Blk.new _ _ _)) rfl ⟨by rw [HV.out], (Below.refl _ _).alloc (Nat.le_refl _) _⟩
set_option maxHeartbeats 2000000 in
theorem head_name (S M B : Nat) (Ar A : Option Addr) (capr cap : Nat) (rs : List RuleS) (bs : List Nat) (w : World) (hS : RdrAt w S Ar rs.length capr M) (hA : BytesAt w B A bs) (hB : B ≤ w.heap.size) (h64 : rs.length < 64) (hM : NamesAt w M rs) (h0 : runS bs ≠ 0) (h32 : runS bs ≤ 32) (hlt : runS bs < bs.length) (hc : byteAt bs (runS bs) = 58) (hcap : bs.length ≤ cap) :
    Calls Tryz.prog 36 #[.pointer (some ⟨S, 0, none⟩), .slice A bs.length cap] w (HeadOut (headS rs bs) w) := by
  have hv : headS rs bs = if called rs (bs.take (runS bs)) = true then .error (8, 0) else .ok (bs.take (runS bs)) := by unfold headS; rw [if_neg (by omega), if_neg h0, if_neg (by omega), if_neg (fun h => by rcases h with h | h; omega; exact h hc)]; rfl
  have HV := Lib.hid hv
  have hlen := hA.2.1
  have hrl := runS_le bs
  have hA1 : BytesAt (w.alloc (.cells #[.int .i64 0, .int .i64 0] 26)) B A bs := hA.below ((Below.refl B w).alloc hB _)
  have HR := Lib.hid (srun_go A cap bs B (w.alloc (.cells #[.int .i64 0, .int .i64 0] 26)) hA1)
  have hS' := Blk.alloc hS (.cells #[.int .i64 0, .int .i64 0] 26)
  have s0 : (w.alloc (.cells #[.int .i64 0, .int .i64 0] 26)).cell? ⟨S, 0, none⟩ = some (.slice Ar rs.length capr) := Blk.cell hS' 0
  have s1 : (w.alloc (.cells #[.int .i64 0, .int .i64 0] 26)).cell? ⟨S, 1, none⟩ = some (.map (some M)) := Blk.cell hS' 1

  have hd : ((rs.length : Int) == 64) = false := by rw [beq_eq_false_iff_ne]; omega
  have hd0 : (((runS bs : Nat) : Int) == 0) = false := by rw [beq_eq_false_iff_ne]; omega
  have hne : (((runS bs : Nat) : Int) == ((bs.length : Nat) : Int)) = false := by rw [beq_eq_false_iff_ne]; omega
  obtain ⟨b, o, rfl, hbl, hcells⟩ := hA1.2.2 (by omega)
  have hcell := hcells (runS bs) hlt
  have hstr := str_run _ b o (runS bs) cap bs (by omega) hcells
  have hlk := (hM.kept (World.grownBy_alloc w (.cells #[.int .i64 0, .int .i64 0] 26) none) (by simp)).look (nm := bs.take (runS bs)) (fun c hc => hA.1 c (List.mem_of_mem_take hc)) (by simp; omega)
  rw [hc] at hcell
  clear hS hA hA1 h64 hS' hrl hc h0 hv hcells hbl hM
  cases hcd : called rs (bs.take (runS bs))
  all_goals
    rw [hcd] at HV hlk
    clear hcd
    generalize bs.take (runS bs) = nm at *
    generalize runS bs = n at *
    go_enter Tryz.func36, Tryz.ntmps36
    go_wp2_with ((with_reducible refine HR.out.mono ?_); rintro e w' ⟨rfl, rfl⟩)
  · exact bodyPost_ret (ret_split (c := .string (strOf nm)) Tryz.results36 rfl rfl (Blk.new _ _ _)) rfl ⟨by rw [HV.out]; rfl, (Below.refl _ _).alloc (Nat.le_refl _) _⟩
  · exact bodyPost_ret (ret_split (c := .string (strOf [])) Tryz.results36 rfl rfl (Blk.new _ _ _)) rfl ⟨by rw [HV.out, if_pos (by trivial)], (Below.refl _ _).alloc (Nat.le_refl _) _⟩
theorem head_go (S M B : Nat) (Ar A : Option Addr) (capr cap : Nat) (rs : List RuleS) (bs : List Nat) (w : World) (hS : RdrAt w S Ar rs.length capr M) (hM : NamesAt w M rs) (hA : BytesAt w B A bs) (hB : B ≤ w.heap.size) (h64 : rs.length ≤ 64) (hcap : bs.length ≤ cap) :
    Calls Tryz.prog 36 #[.pointer (some ⟨S, 0, none⟩), .slice A bs.length cap] w (HeadOut (headS rs bs) w) := by
  have hr := runS_le bs
  by_cases h1 : rs.length = 64
  · exact head_many S M B Ar A capr cap rs bs w hS hA hB h1
  by_cases h2 : runS bs = 0
  · exact head_none S M B Ar A capr cap rs bs w hS hA hB (by omega) h2
  by_cases h3 : 32 < runS bs
  · exact head_long S M B Ar A capr cap rs bs w hS hA hB (by omega) h3
  by_cases h4 : runS bs = bs.length ∨ byteAt bs (runS bs) ≠ 58
  · exact head_colon S M B Ar A capr cap rs bs w hS hA hB (by omega) h2 (by omega) h4
  · rw [not_or] at h4
    exact head_name S M B Ar A capr cap rs bs w hS hA hB (by omega) hM h2 (by omega) (by omega) (by simpa using h4.2) hcap
end Go.Proofs.YtajohcknenngnaaGreat
