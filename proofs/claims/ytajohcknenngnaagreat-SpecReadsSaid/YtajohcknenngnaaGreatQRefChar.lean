/-
  The contract of the reference's char.
-/
import Derived.Test.YtajohcknenngnaaGreatQRefEscX
namespace Go.Proofs.YtajohcknenngnaaGreat
open Go.RowKit
set_option linter.unusedSimpArgs false
set_option linter.unusedVariables false
set_option maxRecDepth 100000

/-- The three results of char. -/
def charVal : Except Wrong (Nat × Nat) → Value
  | .ok (c, j) => .tuple #[.int .u8 (c : Int), .int .i64 (j : Int), .agg #[.int .i64 0, .int .i64 0]]
  | .error (k, p) => .tuple #[.int .u8 0, .int .i64 0, .agg #[.int .i64 k, .int .i64 p]]

set_option maxHeartbeats 1000000 in
theorem rchar_end (A : Option Addr) (cap : Nat) (bs : List Nat) (i s : Nat) (w : World) (hA : BytesAt w w.heap.size A bs) (hi : i = bs.length) : Calls Tryz.prog 131 #[.slice A bs.length cap, .int .i64 (i : Int), .int .i64 (s : Int)] w fun e w' => e = .returned (charVal (charS bs s i)) ∧ Below w.heap.size w w' := by
  rw [charS_end (by omega)]
  have hl := hA.2.1
  have hge : (bs.length : Int) ≤ (i : Int) := by omega
  clear hi hA
  go_enter Tryz.func131, Tryz.ntmps131
  go_wp2_with (go_at_call 127; refine (bad_go _ _ _).mono ?_; rintro e w1 ⟨rfl, hb1⟩; obtain ⟨b0, b1, x0, x1⟩ := ((Blk.new w 26 #[.int .i64 0, .int .i64 0]).below hb1 (by simp)).c2)
  go_light
  refine bodyPost_ret (ret_esc Tryz.results131 rfl rfl rfl ((Blk.new w 26 #[.int .i64 0, .int .i64 0]).below hb1 (by simp)).set2) rfl ⟨rfl, ?_⟩
  exact below_set2 (((Below.refl w.heap.size w).alloc (Nat.le_refl _) _).trans (hb1.mono (by simp))) (Nat.le_refl _) _ _


set_option maxHeartbeats 1000000 in
theorem rchar_esc (A : Option Addr) (cap : Nat) (bs : List Nat) (i s : Nat) (w : World) (hA : BytesAt w w.heap.size A bs) (hi : i < bs.length) (h : byteAt bs i = 92) : Calls Tryz.prog 131 #[.slice A bs.length cap, .int .i64 (i : Int), .int .i64 (s : Int)] w fun e w' => e = .returned (charVal (charS bs s i)) ∧ Below w.heap.size w w' := by
  have hl := hA.2.1
  have hA1 := hA.below ((Below.refl w.heap.size w).alloc (Nat.le_refl _) (.cells #[.int .i64 0, .int .i64 0] 26))
  obtain ⟨b, o, rfl, hbB, hcell⟩ := hA.2.2 (by omega)
  have hx := hcell i (by omega)
  have hbt := byteAt_lt hA.1 i
  obtain ⟨c, hc⟩ : ∃ c, byteAt bs i = c := ⟨_, rfl⟩
  rw [hc] at hx hbt
  have Hc := Lib.hid hc
  have hp0 : (0 : Int) ≤ (i : Int) := by omega
  have hp1 : (i : Int) < (bs.length : Int) := by omega
  have hh : hasAt bs (i : Int) 92 = true := by rw [hasAt_in 92 hi, h]; rfl
  have HV : Hid (escVal bs (i : Int) = charVal (charS bs s i)) := by
    show escVal _ _ = _
    cases he : escS bs i with
    | none => rw [escVal_none hh he, charS_bad hi h he]; rfl
    | some x => obtain ⟨c', j'⟩ := x; rw [escVal_some hh he, charS_esc hi h he]; rfl
  have Hx : Hid (∃ (a b : Value) (k q : Int), escVal bs (i : Int) = .tuple #[a, b, .agg #[.int .i64 k, .int .i64 q]]) := by
    show ∃ (a b : Value) (k q : Int), escVal bs (i : Int) = .tuple #[a, b, .agg #[.int .i64 k, .int .i64 q]]
    cases he : escS bs i with
    | none => exact ⟨_, _, _, _, escVal_none hh he⟩
    | some x => obtain ⟨c', j'⟩ := x; exact ⟨_, _, _, _, escVal_some hh he⟩
  have HA := Lib.hid (hA1.more (B' := (w.alloc (.cells #[.int .i64 0, .int .i64 0] 26)).heap.size) (by simp))
  rw [hc] at h
  subst h
  clear hA hA1 hc hcell hh
  obtain ⟨xa, xb, xk, xq, hxx⟩ := Hx.out
  rw [← HV.out, hxx]
  have Hxx := Lib.hid hxx
  clear hxx
  go_enter Tryz.func131, Tryz.ntmps131
  go_wp2_with fail
  refine (resc_go (some ⟨b, o, none⟩) cap bs _ _ HA.out).mono ?_
  rintro e w1 ⟨rfl, hb1⟩
  rw [Hxx.out]
  obtain ⟨b0, b1, x0, x1⟩ := ((Blk.new w 26 #[.int .i64 0, .int .i64 0]).below hb1 (by simp)).c2
  go_wp2
  go_light
  refine bodyPost_ret (ret_esc Tryz.results131 rfl rfl rfl ((Blk.new w 26 #[.int .i64 0, .int .i64 0]).below hb1 (by simp)).set2) rfl ⟨rfl, ?_⟩
  exact below_set2 (((Below.refl w.heap.size w).alloc (Nat.le_refl _) _).trans (hb1.mono (by simp))) (Nat.le_refl _) _ _

set_option maxHeartbeats 1000000 in
theorem rchar_special (A : Option Addr) (cap : Nat) (bs : List Nat) (i s : Nat) (w : World) (hA : BytesAt w w.heap.size A bs) (hi : i < bs.length) (h : byteAt bs i ≠ 92) (hs : isSpecial (byteAt bs i) = true) : Calls Tryz.prog 131 #[.slice A bs.length cap, .int .i64 (i : Int), .int .i64 (s : Int)] w fun e w' => e = .returned (charVal (charS bs s i)) ∧ Below w.heap.size w w' := by
  rw [charS_special hi h hs]
  have hl := hA.2.1
  have hA1 := hA.below ((Below.refl w.heap.size w).alloc (Nat.le_refl _) (.cells #[.int .i64 0, .int .i64 0] 26))
  obtain ⟨b, o, rfl, hbB, hcell⟩ := hA.2.2 (by omega)
  have hx := hcell i (by omega)
  have hbt := byteAt_lt hA.1 i
  obtain ⟨c, hc⟩ : ∃ c, byteAt bs i = c := ⟨_, rfl⟩
  rw [hc] at hx hbt
  have Hc := Lib.hid hc
  have hp0 : (0 : Int) ≤ (i : Int) := by omega
  have hp1 : (i : Int) < (bs.length : Int) := by omega
  rw [hc] at hs
  have h92 : ((c : Int) == 92) = false := by rw [hc] at h; simp; omega
  have Hn := Lib.hid h
  clear hA hA1 hcell h
  clear hc
  go_enter Tryz.func131, Tryz.ntmps131
  go_wp2_with (first
    | (go_at_call 148; refine (rspecial_go _ _ (by omega) (by omega)).mono ?_; rintro e w2 ⟨rfl, rfl⟩)
    | (go_at_call 127; refine (bad_go _ _ _).mono ?_; rintro e w1 ⟨rfl, hb1⟩; obtain ⟨b0, b1, x0, x1⟩ := ((Blk.new w 26 #[.int .i64 0, .int .i64 0]).below hb1 (by simp)).c2))
  go_light
  refine bodyPost_ret (ret_esc Tryz.results131 rfl rfl rfl ((Blk.new w 26 #[.int .i64 0, .int .i64 0]).below hb1 (by simp)).set2) rfl ⟨rfl, ?_⟩
  exact below_set2 (((Below.refl w.heap.size w).alloc (Nat.le_refl _) _).trans (hb1.mono (by simp))) (Nat.le_refl _) _ _


set_option maxHeartbeats 1000000 in
theorem rchar_self (A : Option Addr) (cap : Nat) (bs : List Nat) (i s : Nat) (w : World) (hA : BytesAt w w.heap.size A bs) (hi : i < bs.length) (h : byteAt bs i ≠ 92) (hs : isSpecial (byteAt bs i) = false) : Calls Tryz.prog 131 #[.slice A bs.length cap, .int .i64 (i : Int), .int .i64 (s : Int)] w fun e w' => e = .returned (charVal (charS bs s i)) ∧ Below w.heap.size w w' := by
  rw [charS_self hi h hs]
  have hl := hA.2.1
  have hA1 := hA.below ((Below.refl w.heap.size w).alloc (Nat.le_refl _) (.cells #[.int .i64 0, .int .i64 0] 26))
  obtain ⟨b, o, rfl, hbB, hcell⟩ := hA.2.2 (by omega)
  have hx := hcell i (by omega)
  have hbt := byteAt_lt hA.1 i
  obtain ⟨c, hc⟩ : ∃ c, byteAt bs i = c := ⟨_, rfl⟩
  rw [hc] at hx hbt
  have Hc := Lib.hid hc
  have hp0 : (0 : Int) ≤ (i : Int) := by omega
  have hp1 : (i : Int) < (bs.length : Int) := by omega
  rw [hc] at hs
  have h92 : ((c : Int) == 92) = false := by rw [hc] at h; simp; omega
  have Hn := Lib.hid h
  clear hA hA1 hcell h
  rw [hc]
  clear hc
  go_enter Tryz.func131, Tryz.ntmps131
  go_wp2_with (go_at_call 148; refine (rspecial_go _ _ (by omega) (by omega)).mono ?_; rintro e w2 ⟨rfl, rfl⟩)
  go_light
  refine bodyPost_ret (ret_esc Tryz.results131 rfl rfl rfl (Blk.new w 26 #[.int .i64 0, .int .i64 0])) rfl ⟨rfl, ?_⟩
  exact (Below.refl w.heap.size w).alloc (Nat.le_refl _) _

theorem rchar_go (A : Option Addr) (cap : Nat) (bs : List Nat) (i s : Nat) (w : World) (hA : BytesAt w w.heap.size A bs) (hi : i ≤ bs.length) : Calls Tryz.prog 131 #[.slice A bs.length cap, .int .i64 (i : Int), .int .i64 (s : Int)] w fun e w' => e = .returned (charVal (charS bs s i)) ∧ Below w.heap.size w w' := by
  by_cases h0 : i = bs.length
  · exact rchar_end A cap bs i s w hA h0
  by_cases h1 : byteAt bs i = 92
  · exact rchar_esc A cap bs i s w hA (by omega) h1
  cases h2 : isSpecial (byteAt bs i)
  · exact rchar_self A cap bs i s w hA (by omega) h1 h2
  · exact rchar_special A cap bs i s w hA (by omega) h1 h2

end Go.Proofs.YtajohcknenngnaaGreat
