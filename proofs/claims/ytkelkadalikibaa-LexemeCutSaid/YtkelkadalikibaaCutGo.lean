/-
  The walk of LexemeCut.
-/
import Derived.Test.YtkelkadalikibaaKnows05
import Derived.Test.YtkelkadalikibaaSameFar
namespace Go.Proofs.Ytkelkadalikibaa
open Go.RowKit
set_option linter.unusedSimpArgs false
set_option linter.unusedVariables false
set_option maxRecDepth 100000

set_option maxHeartbeats 400000 in
theorem cut_bad (A : Option Addr) (cap : Nat) (bs : List Nat) (n : Nat) (w : World) (hA : BytesAt w w.heap.size A bs) (hcap : bs.length ≤ cap) {k q : Int} (h : splitS bs = .error (k, q)) (hk0 : k ≠ 0) :
    Calls Try.prog 4 #[.slice A bs.length cap, .int .u8 (n : Int)] w fun e w' => e = .returned (.bool true) ∧ Below w.heap.size w w' := by
  have h1 := split_go A cap bs w hA hcap
  rw [h] at h1
  have H1 := Lib.hid h1
  clear h h1 hA
  have hkb : (k != 0) = true := by simpa using hk0
  go_enter Try.func4, Try.ntmps4
  go_wp2_with fail
  refine H1.out.mono ?_
  rintro e w1 ⟨rfl, hb1⟩
  have HB1 := Lib.hid hb1
  clear hb1
  go_wp2_with fail
  refine (knows05_go _).mono ?_
  rintro e w4 ⟨rfl, hb4⟩
  have HB4 := Lib.hid hb4
  clear hb4
  go_wp2
  go_light
  go_ret
  exact ⟨rfl, (below_more' HB1.out _).trans (HB4.out.mono (below_more' HB1.out _).size)⟩

set_option maxHeartbeats 400000 in
theorem cut_none (A : Option Addr) (cap : Nat) (bs : List Nat) (n : Nat) (w : World) (hA : BytesAt w w.heap.size A bs) (hcap : bs.length ≤ cap) (h : splitS bs = .ok []) :
    Calls Try.prog 4 #[.slice A bs.length cap, .int .u8 (n : Int)] w fun e w' => e = .returned (.bool true) ∧ Below w.heap.size w w' := by
  have h1 := split_go A cap bs w hA hcap
  rw [h] at h1
  have H1 := Lib.hid h1
  clear h h1 hA
  go_enter Try.func4, Try.ntmps4
  go_wp2_with fail
  refine H1.out.mono ?_
  rintro e w1 ⟨v, rfl, hb1, hrow1⟩
  obtain ⟨Ar, capr, rfl⟩ := own_slice hrow1
  have HB1 := Lib.hid hb1
  clear hb1 hrow1
  go_wp2_with fail
  refine (knows05_go _).mono ?_
  rintro e w4 ⟨rfl, hb4⟩
  have HB4 := Lib.hid hb4
  clear hb4
  go_wp2
  go_light
  go_ret
  exact ⟨rfl, (below_more' HB1.out _).trans (HB4.out.mono (below_more' HB1.out _).size)⟩

theorem splitF_err {bs : List Nat} (hb : ∀ x ∈ bs, x < 256) : ∀ {f i : Nat} {L : List Lex} {k q : Int}, bs.length < f + i → i ≤ bs.length → splitF bs f i L = .error (k, q) → k ≠ 0
  | 0, i, L, k, q, hf, hi, h => by omega
  | f + 1, i, L, k, q, hf, hi, h => by
    rcases Nat.lt_or_ge i bs.length with h1 | h1
    · cases hx : lexS bs i with
      | error e =>
        obtain ⟨a, b⟩ := e
        rw [splitF_bad h1 hx] at h
        cases h
        exact lexS_err hb hx
      | ok x =>
        obtain ⟨x, j⟩ := x
        have hj := lexS_some hb h1 hx
        rw [splitF_ok h1 hx] at h
        exact splitF_err hb (by omega) hj.2 h
    · rw [splitF_end h1] at h; cases h
theorem splitS_err {bs : List Nat} (hb : ∀ x ∈ bs, x < 256) {k q : Int} (h : splitS bs = .error (k, q)) : k ≠ 0 := by
  rcases Nat.lt_or_ge 65536 bs.length with h1 | h1
  · rw [splitS_long h1] at h
    cases h
    decide
  · rw [splitS_go h1] at h
    exact splitF_err hb (by omega) (Nat.zero_le _) h
theorem LexRow.drewN {w : World} {v : Value} {L : List Lex} (h : LexRow w v L) (n : Nat) : LexRow (w.drewN n) v L := h
theorem LexRowO.drewN {w : World} {o : Nat} {v : Value} {L : List Lex} (h : LexRowO w o v L) (n : Nat) : LexRowO (w.drewN n) o v L := h
theorem own_cap {w : World} {base size n : Nat} {e : TypeId} {v : Value} {xs : List Value} {a : Option Addr} {cap : Nat} (h : w.ownsRow base e size v n xs) (hv : v = .slice a n cap) : n ≤ cap := by
  rcases h.2 with ⟨rfl, h0⟩ | ⟨g', cap', cur, rfl, _, _, hc, _⟩
  · have := (Value.slice.inj hv).2.1
    omega
  · have := (Value.slice.inj hv).2.2
    omega
theorem addr_plus (b o j : Nat) : (⟨b, o, none⟩ : Addr).add j = ⟨b, o + j, none⟩ := by unfold Addr.add; split <;> simp_all
set_option maxHeartbeats 1000000 in
theorem cut_ok (A : Option Addr) (cap : Nat) (bs : List Nat) (n : Nat) (w : World) (hA : BytesAt w w.heap.size A bs) (hcap : bs.length ≤ cap) (hn : n < 256) {l : List Lex} (h : splitS bs = .ok l) (hpos : 0 < l.length) :
    Calls Try.prog 4 #[.slice A bs.length cap, .int .u8 (n : Int)] w fun e w' => e = .returned (.bool true) ∧ Below w.heap.size w w' := by
  obtain ⟨k, hk⟩ : ∃ k, n % l.length = k := ⟨_, rfl⟩
  have hkl : k < l.length := by rw [← hk]; exact Nat.mod_lt _ hpos
  obtain ⟨x, hx⟩ : ∃ x, l[k]? = some x := ⟨_, List.getElem?_eq_getElem hkl⟩
  obtain ⟨p, hpl, hp, hmax, h2, h3⟩ := splitS_cut hA.1 h hx
  have hlen : l.length ≤ 65536 := by
    obtain ⟨h4, h5⟩ := (splitS_seg hA.1).1 h
    have := (seg_len hA.1 h5).1
    omega
  obtain ⟨b, o, rfl, _, _⟩ := hA.2.2 (by omega)
  have h1 := split_go (some ⟨b, o, none⟩) cap bs w hA hcap
  rw [h] at h1
  have H1 := Lib.hid h1
  have H2 : Hid (∀ w1, BytesAt w1 w1.heap.size (some ⟨b, o, none⟩) bs → Calls Try.prog 9 #[.slice (some ⟨b, o, none⟩) p cap] w1 (Cuts (.ok (l.take k)) w1)) := Lib.hid (fun w1 h1 => by
    have := split_go (some ⟨b, o, none⟩) cap (bs.take p) w1 (h1.take (by omega)) (by simp; omega)
    rw [h2, List.length_take, Nat.min_eq_left (by omega)] at this
    exact this)
  have H3 : Hid (∀ w1, BytesAt w1 w1.heap.size (some ⟨b, o, none⟩) bs → Calls Try.prog 9 #[.slice (some ⟨b, o + p, none⟩) (bs.length - p) (cap - p)] w1 (Cuts (.ok ((l.drop k).map (Lex.move · p 0))) w1)) := Lib.hid (fun w1 h1 => by
    have := split_go (some ⟨b, o + p, none⟩) (cap - p) (bs.drop p) w1 (h1.drop hp) (by simp; omega)
    rw [h3, List.length_drop] at this
    exact this)
  have HA := Lib.hid hA
  have hm : (n : Int).tmod (l.length : Int) = (k : Int) := by rw [Int.tmod_eq_emod_of_nonneg (by omega), ← hk, Int.natCast_emod]
  have hz : ((l.length : Int) == 0) = false := beq_eq_false_iff_ne.2 (by omega)
  have Hx := Lib.hid hx
  have Hpl := Lib.hid hpl
  have Hfront : Hid ((l.take k).length = k) := Lib.hid (by rw [List.length_take]; omega)
  have Hback : Hid (((l.drop k).map (Lex.move · p 0)).length = l.length - k) := Lib.hid (by simp)
  have Hdrop : Hid ((l.drop k)[0]? = some x) := Lib.hid (by rw [List.getElem?_drop]; exact hx)
  obtain ⟨m, hm1⟩ : ∃ m, l.length - k = m := ⟨_, rfl⟩
  have hsub : (l.length : Int) - (k : Int) = (m : Int) := by omega
  have hmk : ((m : Int) != (m : Int)) = false := by simp
  have hkk : ((k : Int) != (k : Int)) = false := by simp
  rw [hm1] at Hback
  have hmpos : 0 < m := by omega
  clear h h1 h2 h3 hA hk hx hpl
  go_enter Try.func4, Try.ntmps4
  go_wp2_with fail
  refine H1.out.mono ?_
  rintro e w1 ⟨v, rfl, hb1, hrow1⟩
  obtain ⟨g, capr, rfl, _, _⟩ := own_form hrow1 hpos
  have hcr := own_cap hrow1 rfl
  have hck : ¬ capr = k := by omega
  have hkc : k ≤ capr := by omega
  have HB1 := Lib.hid hb1
  have Hr1 := Lib.hid hrow1
  have hlr := lexRow_of hrow1
  obtain ⟨A', cap', hv, hc⟩ := hlr
  obtain ⟨g', hg', _, c1, _⟩ := hc k x Hx.out
  obtain ⟨rfl, rfl⟩ : (some ⟨g, 0, none⟩ = A') ∧ capr = cap' := by simpa using hv
  obtain rfl : g = g' := by simpa using hg'
  rw [Hpl.out] at c1
  clear hb1 hrow1 hv hc hg'
  have HBx := Lib.hid (below_more' HB1.out (.cells #[.int .i64 0, .int .i64 0] 26))
  have Hrx := Lib.hid (Hr1.out.alloc (.cells #[.int .i64 0, .int .i64 0] 26))
  go_wp2_with fail
  refine (H2.out _ ((HA.out.below HBx.out).more HBx.out.size)).mono ?_
  rintro e w2 ⟨v2, rfl, hb2, hrow2⟩
  have HB2 := Lib.hid (HBx.out.trans (hb2.mono HBx.out.size))
  have Hr2 := Lib.hid (own_below Hrx.out hb2)
  have HX2 := Lib.hid hrow2
  obtain ⟨A2, cap2, rfl⟩ := own_slice hrow2
  rw [Hfront.out] at HX2
  rw [Hfront.out]
  clear hb2 hrow2 c1
  have HBy := Lib.hid (below_more' HB2.out (.cells #[.int .i64 0, .int .i64 0] 26))
  have Hry := Lib.hid (Hr2.out.alloc (.cells #[.int .i64 0, .int .i64 0] 26))
  have HXy := Lib.hid (HX2.out.alloc (.cells #[.int .i64 0, .int .i64 0] 26))
  have HFy := Lib.hid (Blk.new w2 26 #[.int .i64 0, .int .i64 0])
  go_wp2_with fail
  refine (H3.out _ ((HA.out.below HBy.out).more HBy.out.size)).mono ?_
  rintro e w3 ⟨v3, rfl, hb3, hrow3⟩
  rw [Hback.out] at hrow3
  obtain ⟨g3, cap3, rfl, _, _⟩ := own_form hrow3 hmpos
  have HB3 := Lib.hid (HBy.out.trans (hb3.mono HBy.out.size))
  have Hr3 := Lib.hid (own_below Hry.out hb3)
  have HX3 := Lib.hid (own_below HXy.out hb3)
  have HY3 := Lib.hid hrow3
  obtain ⟨f0, f1, y0, y1⟩ := (HFy.out.below hb3 HFy.out.lt).c2
  have hl2 : w2.heap.size < w3.heap.size := World.block_lt_of_cell? w3 _ f0
  have m1 : w2.heap.size ≠ w3.heap.size := Nat.ne_of_lt hl2
  clear hb3 hrow3 y0 y1
  have HBz := Lib.hid (below_more' HB3.out (.cells #[.int .i64 0, .int .i64 0] 26))
  have Hrz := Lib.hid (lexRow_of (Hr3.out.alloc (.cells #[.int .i64 0, .int .i64 0] 26)))
  have HXz : Hid (LexRow _ (.slice A2 k cap2) (l.take k)) := Lib.hid (lexRow_of (by rw [Hfront.out]; exact HX3.out.alloc (.cells #[.int .i64 0, .int .i64 0] 26)))
  have HYz : Hid (LexRow _ (.slice (some ⟨g3, 0, none⟩) m cap3) ((l.drop k).map (Lex.move · p 0))) := Lib.hid (lexRow_of (by rw [Hback.out]; exact HY3.out.alloc (.cells #[.int .i64 0, .int .i64 0] 26)))
  go_wp2_with fail
  refine (same_go _ _ (l.take k) _ HXz.out (Hrz.out.front k (by omega) capr) (by have := Hfront.out; omega)).mono ?_
  rintro e w4 ⟨rfl, n4, rfl⟩
  go_wp2_with fail
  refine (same_far_go _ _ (l.drop k) ((l.drop k).map (Lex.move · p 0)) (k * 8) _ (HYz.out.drewN n4) ((Hrz.out.part k m (capr - k) (by omega)).drewN n4) (by simp) (fun j y z hy hz => map_like hy hz) (by rw [List.length_drop]; omega)).mono ?_
  rintro e w5 ⟨rfl, n5, rfl⟩
  obtain ⟨Ay, cy, hvy, hcy⟩ := HYz.out
  obtain ⟨gy, hgy, _, d1, _⟩ := hcy 0 (x.move p 0) (by rw [List.getElem?_map, Hdrop.out]; rfl)
  obtain ⟨rfl, _⟩ : (some ⟨g3, 0, none⟩ = Ay) ∧ cap3 = cy := by
    have := Value.slice.inj hvy
    exact ⟨this.1, this.2.2⟩
  obtain rfl : g3 = gy := by simpa using hgy
  have hx0 : (x.move p 0).place = 0 := by
    show x.place - p + ((0 : Nat) : Int) = 0
    rw [Hpl.out]
    omega
  rw [hx0] at d1
  clear hvy hcy hgy hx0
  simp at d1
  go_wp2_with fail
  refine (knows05_go _).mono ?_
  rintro e w6 ⟨rfl, hb6⟩
  have HB6 := Lib.hid hb6
  clear hb6
  go_wp2
  go_light
  go_ret
  have hbz := bel_drewN HBz.out (n4 + n5)
  exact ⟨rfl, hbz.trans (HB6.out.mono hbz.size)⟩

/-- What the law gives. -/
theorem cut_go (A : Option Addr) (cap : Nat) (bs : List Nat) (n : Nat) (w : World) (hA : BytesAt w w.heap.size A bs) (hcap : bs.length ≤ cap) (hn : n < 256) :
    Calls Try.prog 4 #[.slice A bs.length cap, .int .u8 (n : Int)] w fun e w' => e = .returned (.bool true) ∧ Below w.heap.size w w' := by
  cases h : splitS bs with
  | error x =>
    obtain ⟨k, q⟩ := x
    exact cut_bad A cap bs n w hA hcap h (splitS_err hA.1 h)
  | ok l =>
    rcases Nat.eq_zero_or_pos l.length with h0 | h0
    · have : l = [] := List.length_eq_zero_iff.1 h0
      subst this
      exact cut_none A cap bs n w hA hcap h
    · exact cut_ok A cap bs n w hA hcap hn h h0

end Go.Proofs.Ytkelkadalikibaa
