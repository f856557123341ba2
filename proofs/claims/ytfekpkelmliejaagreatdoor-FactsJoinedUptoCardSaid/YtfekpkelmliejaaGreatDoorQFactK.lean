/-
  facts.Least at the chapter's example, and knows of chapter 10.
-/
import Derived.Test.YtfekpkelmliejaaGreatDoorQZ04
import Derived.Test.YtfekpkelmliejaaGreatDoorQZ06
import Derived.Test.YtfekpkelmliejaaGreatDoorQMirL
namespace Go.Proofs.YtfekpkelmliejaaGreatDoor
open Go.RowKit
set_option linter.unusedSimpArgs false
set_option linter.unusedVariables false
set_option maxRecDepth 100000

@[go_sem] theorem sum_field1 (a b c d e f g h i j k : Value) (w : World) : (Instr.field 85 (.agg #[a, b, c, d, e, f, g, h, i, j, k]) 1).run Tryz.prog w = .ok b w := by kernel_rfl
/-- A word comes back. -/
def WordOut (bs : List Nat) (w : World) (e : Ending) (w' : World) : Prop := ∃ A k, e = .returned (.slice A bs.length k) ∧ BytesAt w' w'.heap.size A bs ∧ Below w.heap.size w w' ∧ (0 < bs.length → ∀ a, A = some a → w.heap.size ≤ a.block)
theorem u8_wrap {c : Nat} (h : c < 256) : IntKind.u8.wrap (c : Int) = (c : Int) := by rw [IntKind.wrap_u8]; omega
set_option maxHeartbeats 2000000 in
theorem least_leaf (x : Nd) (c : Nat) (l0 : List Nat) (hk : x.kind = 3) (hc : elems x.set.testBit 256 = c :: l0) (hc2 : c < 256) (B : Option Addr) (cap : Nat) (w : World) (hT : TabAt 1 Lib.deBruijn64tab w) (hw0 : 1 < w.heap.size) :
    Calls Tryz.prog 62 #[ndV x B cap] w (WordOut [c] w) := by
  have hb : Below w.heap.size w (w.alloc (.cells #[.int .i64 x.kind, .int .u64 ((word (x.set.testBit) 0 : Nat) : Int), .int .u64 ((word (x.set.testBit) 1 : Nat) : Int), .int .u64 ((word (x.set.testBit) 2 : Nat) : Int), .int .u64 ((word (x.set.testBit) 3 : Nat) : Int), .slice B x.kids.len cap, .int .i64 x.lo, .int .i64 x.hi] 28)) := (Below.refl _ _).alloc (Nat.le_refl _) _
  have HB := Lib.hid hb
  have HN := Lib.hid (Blk.new w 28 #[.int .i64 x.kind, .int .u64 ((word (x.set.testBit) 0 : Nat) : Int), .int .u64 ((word (x.set.testBit) 1 : Nat) : Int), .int .u64 ((word (x.set.testBit) 2 : Nat) : Int), .int .u64 ((word (x.set.testBit) 3 : Nat) : Int), .slice B x.kids.len cap, .int .i64 x.lo, .int .i64 x.hi])
  have HC := Lib.hid (leastl_go x.set.testBit c l0 hc _ (TabAt.below hb hw0 hT) (Nat.lt_of_lt_of_le hw0 hb.size))
  have hwr := u8_wrap hc2
  have HC2 := Lib.hid hc2
  clear hb hT hw0 hc
  unfold ndV
  rw [hk] at HN HB HC ⊢
  go_enter Tryz.func62, Tryz.ntmps62
  go_upto_region 1 with fail
  generalize w.alloc (.cells #[.int .i64 3, .int .u64 ((word (x.set.testBit) 0 : Nat) : Int), .int .u64 ((word (x.set.testBit) 1 : Nat) : Int), .int .u64 ((word (x.set.testBit) 2 : Nat) : Int), .int .u64 ((word (x.set.testBit) 3 : Nat) : Int), .slice B x.kids.len cap, .int .i64 x.lo, .int .i64 x.hi] 28) = w2 at *
  have n0 := HN.out.cell 0
  have n1 := HN.out.cell 1
  have n2 := HN.out.cell 2
  have n3 := HN.out.cell 3
  have n4 := HN.out.cell 4
  have hln := HN.out.lt
  simp only [List.getElem?_toArray, List.getElem?_cons_zero, List.getElem?_cons_succ] at n0 n1 n2 n3 n4
  clear hc2
  go_wp2_with fail
  refine HC.out.mono ?_
  rintro e w3 ⟨rfl, hb3⟩
  have HB3 := Lib.hid ((HB.out.trans (hb3.mono HB.out.size)).alloc (by have := HB.out.size; have := hb3.size; omega) (.cells #[.int .u8 (c : Int)] 5))
  have HS := Lib.hid (show w.heap.size ≤ w3.heap.size from Nat.le_trans HB.out.size hb3.size)
  have HA := Lib.hid (bytes_new w3 w3.heap.size [c] #[.int .u8 (c : Int)] (0, 0) rfl rfl (by simpa using HC2.out) (by simp))
  clear hb3 HC n0 n1 n2 n3 n4 hln
  dsimp only
  go_wp2
  go_light
  go_ret
  exact ⟨_, _, rfl, HA.out, HB3.out, fun _ a e => by cases e; exact HS.out⟩
theorem min_one (g cap : Nat) (v : Value) (w : World) (hg : w.cell? ⟨g, 0, none⟩ = some v) :
    Calls Tryz.prog 153 #[.slice (some ⟨g, 0, none⟩) 1 cap, .func (.func 154) #[] #[]] w fun e w' => e = .returned v ∧ w = w' := by
  go_enter Tryz.func153, Tryz.ntmps153
  go_wp2
  refine wp_loop_rounds 1 ?_
  rw [rounds_succ]
  go_wp2
  go_ret
  exact ⟨rfl, rfl⟩
theorem info_word : (Tryz.prog.info? 88).map (fun i => (i.zero, i.size, i.bytes)) = some (some (.slice none 0 0), 1, 24) := by kernel_rfl
set_option maxHeartbeats 8000000 in
theorem leastOf2_go (F : Trees) (a y : Nd) (c : Nat) (hF : F.list = [a, y]) (ha : a.sum.short = 1) (hy : y.sum.short = 2) (hzs : a.size ≤ 1000 ∧ y.size ≤ 1000) (ho : (∀ z ∈ a.nodes, aloneN z = true) ∧ (∀ z ∈ y.nodes, aloneN z = true)) (P : Nat → Prop) (B : Option Addr) (cap : Nat) (w : World) (ht : TreesAt w P F B)
    (hLa : ∀ (C : Option Addr) (capc : Nat) (W : World), Below w.heap.size w W → TreesAt W P a.kids C → Calls Tryz.prog 62 #[ndV a C capc] W (WordOut [c] W)) :
    Calls Tryz.prog 107 #[.slice B 2 cap] w (WordOut [c] w) := by
  have HT := Lib.hid ht
  have HLa := Lib.hid hLa
  have H0 := Lib.hid (show F.list[0]? = some a by rw [hF]; rfl)
  have H1 := Lib.hid (show F.list[1]? = some y by rw [hF]; rfl)
  have HOa := Lib.hid (fun (W : World) (C : Option Addr) (k : Nat) (h : TreesAt W P a.kids C) => of_go a P C k W (by omega) ho.1 h)
  have HOy := Lib.hid (fun (W : World) (C : Option Addr) (k : Nat) (h : TreesAt W P y.kids C) => of_go y P C k W (by omega) ho.2 h)
  have HA := Lib.hid ha
  have HY := Lib.hid hy
  clear ht hLa hF ha hy hzs ho
  obtain ⟨i0, hi, hz0, hz1, hz2⟩ := info_parts info_word
  obtain ⟨b, o, C, capc, rfl, hbP, _, ⟨c0, c1, c2, c3, c4, c5, c6, c7⟩, hka⟩ := HT.out.get H0.out
  obtain ⟨b', o', D, capd, e0, _, _, ⟨d0, d1, d2, d3, d4, d5, d6, d7⟩, hky⟩ := HT.out.get H1.out
  cases e0
  simp only [Nat.zero_mul, Nat.add_zero] at c0 c1 c2 c3 c4 c5 c6 c7
  simp only [Nat.one_mul] at d0 d1 d2 d3 d4 d5 d6 d7
  have hblk : b < w.heap.size := World.block_lt_of_cell? w _ c0
  have Hka := Lib.hid hka
  have Hky := Lib.hid hky
  have HCa := Lib.hid (show ∀ W, Below w.heap.size w W → W.cell? ⟨b, o, none⟩ = some (.int .i64 a.kind) ∧ W.cell? ⟨b, o + 1, none⟩ = some (.int .u64 ((word a.set.testBit 0 : Nat) : Int)) ∧ W.cell? ⟨b, o + 2, none⟩ = some (.int .u64 ((word a.set.testBit 1 : Nat) : Int)) ∧ W.cell? ⟨b, o + 3, none⟩ = some (.int .u64 ((word a.set.testBit 2 : Nat) : Int)) ∧ W.cell? ⟨b, o + 4, none⟩ = some (.int .u64 ((word a.set.testBit 3 : Nat) : Int)) ∧ W.cell? ⟨b, o + 5, none⟩ = some (.slice C a.kids.len capc) ∧ W.cell? ⟨b, o + 6, none⟩ = some (.int .i64 a.lo) ∧ W.cell? ⟨b, o + 7, none⟩ = some (.int .i64 a.hi) ∧ b < W.heap.size from
    fun W h => ⟨(h.cell (p := ⟨b, _, none⟩) hblk).trans c0, (h.cell (p := ⟨b, _, none⟩) hblk).trans c1, (h.cell (p := ⟨b, _, none⟩) hblk).trans c2, (h.cell (p := ⟨b, _, none⟩) hblk).trans c3, (h.cell (p := ⟨b, _, none⟩) hblk).trans c4, (h.cell (p := ⟨b, _, none⟩) hblk).trans c5, (h.cell (p := ⟨b, _, none⟩) hblk).trans c6, (h.cell (p := ⟨b, _, none⟩) hblk).trans c7, Nat.lt_of_lt_of_le hblk h.size⟩)
  have HCy := Lib.hid (show ∀ W, Below w.heap.size w W → W.cell? ⟨b, o + 8, none⟩ = some (.int .i64 y.kind) ∧ W.cell? ⟨b, o + 8 + 1, none⟩ = some (.int .u64 ((word y.set.testBit 0 : Nat) : Int)) ∧ W.cell? ⟨b, o + 8 + 2, none⟩ = some (.int .u64 ((word y.set.testBit 1 : Nat) : Int)) ∧ W.cell? ⟨b, o + 8 + 3, none⟩ = some (.int .u64 ((word y.set.testBit 2 : Nat) : Int)) ∧ W.cell? ⟨b, o + 8 + 4, none⟩ = some (.int .u64 ((word y.set.testBit 3 : Nat) : Int)) ∧ W.cell? ⟨b, o + 8 + 5, none⟩ = some (.slice D y.kids.len capd) ∧ W.cell? ⟨b, o + 8 + 6, none⟩ = some (.int .i64 y.lo) ∧ W.cell? ⟨b, o + 8 + 7, none⟩ = some (.int .i64 y.hi) ∧ b < W.heap.size from
    fun W h => ⟨(h.cell (p := ⟨b, _, none⟩) hblk).trans d0, (h.cell (p := ⟨b, _, none⟩) hblk).trans d1, (h.cell (p := ⟨b, _, none⟩) hblk).trans d2, (h.cell (p := ⟨b, _, none⟩) hblk).trans d3, (h.cell (p := ⟨b, _, none⟩) hblk).trans d4, (h.cell (p := ⟨b, _, none⟩) hblk).trans d5, (h.cell (p := ⟨b, _, none⟩) hblk).trans d6, (h.cell (p := ⟨b, _, none⟩) hblk).trans d7, Nat.lt_of_lt_of_le hblk h.size⟩)
  clear c0 c1 c2 c3 c4 c5 c6 c7 d0 d1 d2 d3 d4 d5 d6 d7 hka hky hblk hbP
  have HB0 := Lib.hid (Below.refl w.heap.size w)
  go_enter Tryz.func107, Tryz.ntmps107
  go_wp2
  refine wp_loop_rounds 3 ?_
  rw [rounds_succ]
  obtain ⟨c0, c1, c2, c3, c4, c5, c6, c7, hlb⟩ := HCa.out w HB0.out
  have HBA := Lib.hid (HB0.out.alloc (Nat.le_refl _) (.cells #[.int .i64 a.kind, .int .u64 ((word (a.set.testBit) 0 : Nat) : Int), .int .u64 ((word (a.set.testBit) 1 : Nat) : Int), .int .u64 ((word (a.set.testBit) 2 : Nat) : Int), .int .u64 ((word (a.set.testBit) 3 : Nat) : Int), .slice C a.kids.len capc, .int .i64 a.lo, .int .i64 a.hi] 28))
  have HC := Lib.hid (HOa.out (w.alloc (.cells #[.int .i64 a.kind, .int .u64 ((word (a.set.testBit) 0 : Nat) : Int), .int .u64 ((word (a.set.testBit) 1 : Nat) : Int), .int .u64 ((word (a.set.testBit) 2 : Nat) : Int), .int .u64 ((word (a.set.testBit) 3 : Nat) : Int), .slice C a.kids.len capc, .int .i64 a.lo, .int .i64 a.hi] 28)) C capc (Hka.out.below HBA.out))
  unfold ndV at HC
  go_wp2_with fail
  refine HC.out.mono ?_
  rintro e w1 ⟨rfl, hb1⟩
  have HB1 := Lib.hid (HBA.out.trans (hb1.mono HBA.out.size))
  clear hb1 HC HBA c0 c1 c2 c3 c4 c5 c6 c7 hlb
  unfold sumV sumA
  rw [HA.out]
  dsimp only
  go_wp2
  rw [rounds_succ]
  obtain ⟨c0, c1, c2, c3, c4, c5, c6, c7, hlb⟩ := HCy.out w1 HB1.out
  have HBA := Lib.hid (HB1.out.alloc HB1.out.size (.cells #[.int .i64 y.kind, .int .u64 ((word (y.set.testBit) 0 : Nat) : Int), .int .u64 ((word (y.set.testBit) 1 : Nat) : Int), .int .u64 ((word (y.set.testBit) 2 : Nat) : Int), .int .u64 ((word (y.set.testBit) 3 : Nat) : Int), .slice D y.kids.len capd, .int .i64 y.lo, .int .i64 y.hi] 28))
  have HC := Lib.hid (HOy.out (w1.alloc (.cells #[.int .i64 y.kind, .int .u64 ((word (y.set.testBit) 0 : Nat) : Int), .int .u64 ((word (y.set.testBit) 1 : Nat) : Int), .int .u64 ((word (y.set.testBit) 2 : Nat) : Int), .int .u64 ((word (y.set.testBit) 3 : Nat) : Int), .slice D y.kids.len capd, .int .i64 y.lo, .int .i64 y.hi] 28)) D capd (Hky.out.below HBA.out))
  unfold ndV at HC
  go_wp2_with fail
  refine HC.out.mono ?_
  rintro e w2 ⟨rfl, hb2⟩
  have HB2 := Lib.hid (HBA.out.trans (hb2.mono HBA.out.size))
  clear hb2 HC HBA c0 c1 c2 c3 c4 c5 c6 c7 hlb HB1
  unfold sumV sumA
  rw [HY.out]
  dsimp only
  go_wp2
  rw [rounds_succ]
  go_wp2
  refine wp_loop_rounds 3 ?_
  rw [rounds_succ]
  obtain ⟨c0, c1, c2, c3, c4, c5, c6, c7, hlb⟩ := HCa.out w2 HB2.out
  have HBA := Lib.hid (HB2.out.alloc HB2.out.size (.cells #[.int .i64 a.kind, .int .u64 ((word (a.set.testBit) 0 : Nat) : Int), .int .u64 ((word (a.set.testBit) 1 : Nat) : Int), .int .u64 ((word (a.set.testBit) 2 : Nat) : Int), .int .u64 ((word (a.set.testBit) 3 : Nat) : Int), .slice C a.kids.len capc, .int .i64 a.lo, .int .i64 a.hi] 28))
  have HN := Lib.hid (Blk.new w2 28 #[.int .i64 a.kind, .int .u64 ((word (a.set.testBit) 0 : Nat) : Int), .int .u64 ((word (a.set.testBit) 1 : Nat) : Int), .int .u64 ((word (a.set.testBit) 2 : Nat) : Int), .int .u64 ((word (a.set.testBit) 3 : Nat) : Int), .slice C a.kids.len capc, .int .i64 a.lo, .int .i64 a.hi])
  have HC := Lib.hid (HOa.out (w2.alloc (.cells #[.int .i64 a.kind, .int .u64 ((word (a.set.testBit) 0 : Nat) : Int), .int .u64 ((word (a.set.testBit) 1 : Nat) : Int), .int .u64 ((word (a.set.testBit) 2 : Nat) : Int), .int .u64 ((word (a.set.testBit) 3 : Nat) : Int), .slice C a.kids.len capc, .int .i64 a.lo, .int .i64 a.hi] 28)) C capc (Hka.out.below HBA.out))
  unfold ndV at HC
  go_wp2_with fail
  refine HC.out.mono ?_
  rintro e w3 ⟨rfl, hb3⟩
  have HB3 := Lib.hid (HBA.out.trans (hb3.mono HBA.out.size))
  have hN3 := HN.out.below hb3 HN.out.lt
  clear hb3 HC HBA c0 c1 c2 c3 c4 c5 c6 c7 hlb HN
  have n0 := hN3.cell 0
  have n1 := hN3.cell 1
  have n2 := hN3.cell 2
  have n3 := hN3.cell 3
  have n4 := hN3.cell 4
  have n5 := hN3.cell 5
  have n6 := hN3.cell 6
  have n7 := hN3.cell 7
  have hln := hN3.lt
  simp only [List.getElem?_toArray, List.getElem?_cons_zero, List.getElem?_cons_succ] at n0 n1 n2 n3 n4 n5 n6 n7
  clear hN3
  have HC := Lib.hid (HLa.out C capc w3 HB3.out (Hka.out.below HB3.out))
  unfold ndV at HC
  unfold sumV sumA
  rw [HA.out]
  dsimp only
  go_wp2_with fail
  refine HC.out.mono ?_
  rintro e w4 ⟨A4, k4, rfl, hA4, hb4, hn4⟩
  have HNW := Lib.hid (show ∀ a, A4 = some a → w.heap.size ≤ a.block from fun a e => Nat.le_trans HB3.out.size (hn4 (by simp) a e))
  have HB4 := Lib.hid (HB3.out.trans (hb4.mono HB3.out.size))
  clear hn4
  have HA4 := Lib.hid hA4
  clear hb4 hA4 HC n0 n1 n2 n3 n4 n5 n6 n7 hln HB3
  have hsz : w.heap.size ≤ w4.heap.size := HB4.out.size
  dsimp only
  go_wp2
  generalize (Question.appendCap 1 0 88).cut (w4.tape w4.drawn (Question.appendCap 1 0 88)) = K at *
  generalize Builtin.zeroCells #[Value.slice none 0 0] (K - 1) = zs at *
  have hb5 : Below w4.heap.size w4 ((w4.alloc (.cells #[.slice A4 1 k4] 88)).alloc (.cells (#[.slice A4 1 k4] ++ zs) 88)).drew := (((Below.refl _ _).alloc (Nat.le_refl _) _).alloc (by simp) _).drew
  have HW5 := Lib.hid (show ((w4.alloc (.cells #[.slice A4 1 k4] 88)).alloc (.cells (#[.slice A4 1 k4] ++ zs) 88)).drew.cell? ⟨w4.heap.size + 1, 0, none⟩ = some (.slice A4 1 k4) ∧ w4.heap.size + 1 < ((w4.alloc (.cells #[.slice A4 1 k4] 88)).alloc (.cells (#[.slice A4 1 k4] ++ zs) 88)).drew.heap.size from by
    have hb : Blk ((w4.alloc (.cells #[.slice A4 1 k4] 88)).alloc (.cells (#[.slice A4 1 k4] ++ zs) 88)) (w4.heap.size + 1) 88 (#[.slice A4 1 k4] ++ zs) := Blk.new_at (by simp)
    exact ⟨(hb.cell 0).trans (by rw [Array.getElem?_append_left (by simp)]; rfl), hb.lt⟩)
  have HB5 := Lib.hid (HB4.out.trans (hb5.mono HB4.out.size))
  have HA5 := Lib.hid ((HA4.out.below hb5).more hb5.size)
  clear hb5 HA4 HB4 hsz
  generalize ((w4.alloc (.cells #[.slice A4 1 k4] 88)).alloc (.cells (#[.slice A4 1 k4] ++ zs) 88)).drew = w5 at *
  generalize w4.heap.size + 1 = gq at *
  rw [rounds_succ]
  obtain ⟨c0, c1, c2, c3, c4, c5, c6, c7, hlb⟩ := HCy.out w5 HB5.out
  have HBA := Lib.hid (HB5.out.alloc HB5.out.size (.cells #[.int .i64 y.kind, .int .u64 ((word (y.set.testBit) 0 : Nat) : Int), .int .u64 ((word (y.set.testBit) 1 : Nat) : Int), .int .u64 ((word (y.set.testBit) 2 : Nat) : Int), .int .u64 ((word (y.set.testBit) 3 : Nat) : Int), .slice D y.kids.len capd, .int .i64 y.lo, .int .i64 y.hi] 28))
  have hba : Below w5.heap.size w5 (w5.alloc (.cells #[.int .i64 y.kind, .int .u64 ((word (y.set.testBit) 0 : Nat) : Int), .int .u64 ((word (y.set.testBit) 1 : Nat) : Int), .int .u64 ((word (y.set.testBit) 2 : Nat) : Int), .int .u64 ((word (y.set.testBit) 3 : Nat) : Int), .slice D y.kids.len capd, .int .i64 y.lo, .int .i64 y.hi] 28)) := (Below.refl _ _).alloc (Nat.le_refl _) _
  have HBW := Lib.hid hba
  have HC := Lib.hid (HOy.out (w5.alloc (.cells #[.int .i64 y.kind, .int .u64 ((word (y.set.testBit) 0 : Nat) : Int), .int .u64 ((word (y.set.testBit) 1 : Nat) : Int), .int .u64 ((word (y.set.testBit) 2 : Nat) : Int), .int .u64 ((word (y.set.testBit) 3 : Nat) : Int), .slice D y.kids.len capd, .int .i64 y.lo, .int .i64 y.hi] 28)) D capd (Hky.out.below HBA.out))
  unfold ndV at HC
  clear hba
  go_wp2_with fail
  refine HC.out.mono ?_
  rintro e w6 ⟨rfl, hb6⟩
  have HB6 := Lib.hid (HBA.out.trans (hb6.mono HBA.out.size))
  have HV6 := HBW.out.trans (hb6.mono HBW.out.size)
  have HA6 := Lib.hid ((HA5.out.below HV6).more HV6.size)
  have hc6 : w6.cell? ⟨gq, 0, none⟩ = some (.slice A4 1 k4) := (HV6.cell (p := ⟨gq, 0, none⟩) HW5.out.2).trans HW5.out.1
  have HM := Lib.hid (fun (cp : Nat) => min_one gq cp (.slice A4 1 k4) w6 hc6)
  clear hb6 HC HBA c0 c1 c2 c3 c4 c5 c6 c7 hlb HB5 HV6 HBW hc6 HW5
  unfold sumV sumA
  rw [HY.out]
  dsimp only
  go_wp2
  rw [rounds_succ]
  go_wp2_with fail
  refine (HM.out _).mono ?_
  rintro e w7 ⟨rfl, rfl⟩
  dsimp only
  go_wp2
  go_light
  go_ret
  exact ⟨_, _, rfl, HA6.out, HB6.out, fun _ => HNW.out⟩
/-- The tree of the chapter's example. -/
def kt10 : Nd := ⟨7, 0, Trees.of [⟨5, 0, Trees.of [leafN (maskOf (among [97] 1)), ⟨4, 0, Trees.of [leafN (maskOf (among [98] 1)), leafN (maskOf (among [99] 1))], 0, 0⟩], 0, 0⟩], 0, 0⟩
def ka10 : Nd := ⟨5, 0, Trees.of [leafN (maskOf (among [97] 1)), ⟨4, 0, Trees.of [leafN (maskOf (among [98] 1)), leafN (maskOf (among [99] 1))], 0, 0⟩], 0, 0⟩
def ky10 : Nd := ⟨4, 0, Trees.of [leafN (maskOf (among [98] 1)), leafN (maskOf (among [99] 1))], 0, 0⟩
theorem parse10 : parseS [40, 97, 124, 98, 99, 41, 43] = .ok kt10 := by kernel_rfl
theorem right10 : rightT kt10 = true := by decide +kernel
theorem rightY10 : rightT ky10 = true := by decide +kernel
theorem rightL10 : rightT (leafN (maskOf (among [97] 1))) = true := by decide +kernel
theorem sum10 : kt10.sum.hollow = false ∧ kt10.sum.short = 1 ∧ kt10.sum.long = endF := by decide +kernel
theorem sumY10 : ky10.sum.short = 2 := by decide +kernel
theorem sumL10 : (leafN (maskOf (among [97] 1))).sum.short = 1 := by decide +kernel
theorem elL10 : elems (maskOf (among [97] 1)).testBit 256 = [97] := by decide +kernel
theorem edge10 : (∀ i, i < 4 → word kt10.sum.first i = word (among [97, 98] 2) i) ∧ (∀ i, i < 4 → word kt10.sum.last i = word (among [97, 99] 2) i) := by
  refine ⟨fun i hi => ?_, fun i hi => ?_⟩
  · match i, hi with
    | 0, _ => decide +kernel
    | 1, _ => decide +kernel
    | 2, _ => decide +kernel
    | 3, _ => decide +kernel
  · match i, hi with
    | 0, _ => decide +kernel
    | 1, _ => decide +kernel
    | 2, _ => decide +kernel
    | 3, _ => decide +kernel

set_option maxHeartbeats 2000000 in
theorem least_alt (x : Nd) (bs : List Nat) (hk : x.kind = 5) (B : Option Addr) (cap : Nat) (w : World) (hC : ∀ W, Below w.heap.size w W → Calls Tryz.prog 107 #[.slice B x.kids.len cap] W (WordOut bs W)) :
    Calls Tryz.prog 62 #[ndV x B cap] w (WordOut bs w) := by
  have hb : Below w.heap.size w (w.alloc (.cells #[.int .i64 x.kind, .int .u64 ((word (x.set.testBit) 0 : Nat) : Int), .int .u64 ((word (x.set.testBit) 1 : Nat) : Int), .int .u64 ((word (x.set.testBit) 2 : Nat) : Int), .int .u64 ((word (x.set.testBit) 3 : Nat) : Int), .slice B x.kids.len cap, .int .i64 x.lo, .int .i64 x.hi] 28)) := (Below.refl _ _).alloc (Nat.le_refl _) _
  have HB := Lib.hid hb
  have HN := Lib.hid (Blk.new w 28 #[.int .i64 x.kind, .int .u64 ((word (x.set.testBit) 0 : Nat) : Int), .int .u64 ((word (x.set.testBit) 1 : Nat) : Int), .int .u64 ((word (x.set.testBit) 2 : Nat) : Int), .int .u64 ((word (x.set.testBit) 3 : Nat) : Int), .slice B x.kids.len cap, .int .i64 x.lo, .int .i64 x.hi])
  have HC := Lib.hid (hC _ hb)
  clear hb hC
  unfold ndV
  rw [hk] at HN HB HC ⊢
  go_enter Tryz.func62, Tryz.ntmps62
  go_upto_region 1 with fail
  generalize w.alloc (.cells #[.int .i64 5, .int .u64 ((word (x.set.testBit) 0 : Nat) : Int), .int .u64 ((word (x.set.testBit) 1 : Nat) : Int), .int .u64 ((word (x.set.testBit) 2 : Nat) : Int), .int .u64 ((word (x.set.testBit) 3 : Nat) : Int), .slice B x.kids.len cap, .int .i64 x.lo, .int .i64 x.hi] 28) = w2 at *
  have n0 := (HN.out).cell 0
  have n1 := (HN.out).cell 1
  have n2 := (HN.out).cell 2
  have n3 := (HN.out).cell 3
  have n4 := (HN.out).cell 4
  have n5 := (HN.out).cell 5
  have n6 := (HN.out).cell 6
  have n7 := (HN.out).cell 7
  have hln := (HN.out).lt
  simp only [List.getElem?_toArray, List.getElem?_cons_zero, List.getElem?_cons_succ] at n0 n1 n2 n3 n4 n5 n6 n7
  go_wp2_with fail
  refine HC.out.mono ?_
  rintro e w3 ⟨A3, k3, rfl, hA3, hb3, hn3⟩
  have HNW := Lib.hid (show 0 < bs.length → ∀ a, A3 = some a → w.heap.size ≤ a.block from fun h a e => Nat.le_trans HB.out.size (hn3 h a e))
  have HB3 := Lib.hid (HB.out.trans (hb3.mono HB.out.size))
  clear hn3
  have HA3 := Lib.hid hA3
  clear hb3 hA3 HC
  clear n0 n1 n2 n3 n4 n5 n6 n7 hln
  dsimp only
  go_wp2
  go_light
  go_ret
  exact ⟨_, _, rfl, HA3.out, HB3.out, HNW.out⟩
set_option maxHeartbeats 2000000 in
theorem least_plus (x z : Nd) (bs : List Nat) (hk : x.kind = 7) (hz : x.kids.list[0]? = some z) (hk1 : x.kids.len = 1) (P : Nat → Prop) (B : Option Addr) (cap : Nat) (w : World) (ht : TreesAt w P x.kids B)
    (hC : ∀ W C capc, Below w.heap.size w W → TreesAt W P z.kids C → Calls Tryz.prog 62 #[ndV z C capc] W (WordOut bs W)) :
    Calls Tryz.prog 62 #[ndV x B cap] w (WordOut bs w) := by
  have hb : Below w.heap.size w (w.alloc (.cells #[.int .i64 x.kind, .int .u64 ((word (x.set.testBit) 0 : Nat) : Int), .int .u64 ((word (x.set.testBit) 1 : Nat) : Int), .int .u64 ((word (x.set.testBit) 2 : Nat) : Int), .int .u64 ((word (x.set.testBit) 3 : Nat) : Int), .slice B x.kids.len cap, .int .i64 x.lo, .int .i64 x.hi] 28)) := (Below.refl _ _).alloc (Nat.le_refl _) _
  have HB := Lib.hid hb
  have HN := Lib.hid (Blk.new w 28 #[.int .i64 x.kind, .int .u64 ((word (x.set.testBit) 0 : Nat) : Int), .int .u64 ((word (x.set.testBit) 1 : Nat) : Int), .int .u64 ((word (x.set.testBit) 2 : Nat) : Int), .int .u64 ((word (x.set.testBit) 3 : Nat) : Int), .slice B x.kids.len cap, .int .i64 x.lo, .int .i64 x.hi])
  have HT := Lib.hid (ht.below hb)
  have HCC := Lib.hid hC
  have HK1 := Lib.hid hk1
  clear hb hC ht hk1
  unfold ndV
  rw [hk] at HN HB HT ⊢
  go_enter Tryz.func62, Tryz.ntmps62
  go_upto_region 1 with fail
  generalize w.alloc (.cells #[.int .i64 7, .int .u64 ((word (x.set.testBit) 0 : Nat) : Int), .int .u64 ((word (x.set.testBit) 1 : Nat) : Int), .int .u64 ((word (x.set.testBit) 2 : Nat) : Int), .int .u64 ((word (x.set.testBit) 3 : Nat) : Int), .slice B x.kids.len cap, .int .i64 x.lo, .int .i64 x.hi] 28) = w2 at *
  have hk1 := HK1.out
  obtain ⟨b, o, C, capc, rfl, _, _, ⟨c0, c1, c2, c3, c4, c5, c6, c7⟩, hkz⟩ := HT.out.get hz
  simp only [Nat.zero_mul, Nat.add_zero] at c0 c1 c2 c3 c4 c5 c6 c7
  have hblk := World.block_lt_of_cell? w2 _ c0
  have HC := Lib.hid (HCC.out w2 C capc HB.out hkz)
  unfold ndV at HC
  clear hkz hz
  have n0 := (HN.out).cell 0
  have n1 := (HN.out).cell 1
  have n2 := (HN.out).cell 2
  have n3 := (HN.out).cell 3
  have n4 := (HN.out).cell 4
  have n5 := (HN.out).cell 5
  have n6 := (HN.out).cell 6
  have n7 := (HN.out).cell 7
  have hln := (HN.out).lt
  simp only [List.getElem?_toArray, List.getElem?_cons_zero, List.getElem?_cons_succ] at n0 n1 n2 n3 n4 n5 n6 n7
  go_wp2_with fail
  refine HC.out.mono ?_
  rintro e w3 ⟨A3, k3, rfl, hA3, hb3, hn3⟩
  have HNW := Lib.hid (show 0 < bs.length → ∀ a, A3 = some a → w.heap.size ≤ a.block from fun h a e => Nat.le_trans HB.out.size (hn3 h a e))
  have HB3 := Lib.hid (HB.out.trans (hb3.mono HB.out.size))
  clear hn3
  have HA3 := Lib.hid hA3
  clear hb3 hA3 HC c0 c1 c2 c3 c4 c5 c6 c7 hblk
  clear n0 n1 n2 n3 n4 n5 n6 n7 hln
  dsimp only
  go_wp2
  go_light
  go_ret
  exact ⟨_, _, rfl, HA3.out, HB3.out, HNW.out⟩
theorem known10 : knownF kt10 = kt10.sum := by unfold knownF; rw [if_pos right10]
theorem least10_go (P : Nat → Prop) (B : Option Addr) (cap : Nat) (w : World) (ht : TreesAt w P kt10.kids B) (hT : TabAt 1 Lib.deBruijn64tab w) (hw0 : 1 < w.heap.size) :
    Calls Tryz.prog 62 #[ndV kt10 B cap] w (WordOut [97] w) := by
  refine least_plus kt10 ka10 [97] rfl rfl rfl P B cap w ht fun W C capc hW hC => ?_
  refine least_alt ka10 [97] rfl C capc W fun W2 hW2 => ?_
  have hb2 : Below w.heap.size w W2 := hW.trans (hW2.mono hW.size)
  exact leastOf2_go ka10.kids (leafN (maskOf (among [97] 1))) ky10 97 rfl sumL10 sumY10 (by decide) ⟨rightT_nodes rightL10, rightT_nodes rightY10⟩ P C capc W2 (hC.below hW2)
    (fun C' capc' W3 hW3 _ => least_leaf _ 97 [] rfl elL10 (by decide) C' capc' W3 (TabAt.below (hb2.trans (hW3.mono hb2.size)) hw0 hT) (Nat.lt_of_lt_of_le hw0 (hb2.trans (hW3.mono hb2.size)).size))
set_option maxHeartbeats 4000000 in
theorem Least10_go (B : Option Addr) (cap : Nat) (w : World) (ht : TreesAt w (fun b => b < w.heap.size) kt10.kids B) (hT : TabAt 1 Lib.deBruijn64tab w) (hw0 : 1 < w.heap.size) :
    Calls Tryz.prog 13 #[ndV kt10 B cap, .int .i64 9] w fun e w' => ∃ A k, e = .returned (.tuple #[.slice A 1 k, .bool true]) ∧ BytesAt w' w'.heap.size A [97] ∧ Below w.heap.size w w' := by
  have hb : Below w.heap.size w (w.alloc (.cells #[.int .i64 kt10.kind, .int .u64 ((word (kt10.set.testBit) 0 : Nat) : Int), .int .u64 ((word (kt10.set.testBit) 1 : Nat) : Int), .int .u64 ((word (kt10.set.testBit) 2 : Nat) : Int), .int .u64 ((word (kt10.set.testBit) 3 : Nat) : Int), .slice B kt10.kids.len cap, .int .i64 kt10.lo, .int .i64 kt10.hi] 28)) := (Below.refl _ _).alloc (Nat.le_refl _) _
  have HB := Lib.hid hb
  have HN := Lib.hid (Blk.new w 28 #[.int .i64 kt10.kind, .int .u64 ((word (kt10.set.testBit) 0 : Nat) : Int), .int .u64 ((word (kt10.set.testBit) 1 : Nat) : Int), .int .u64 ((word (kt10.set.testBit) 2 : Nat) : Int), .int .u64 ((word (kt10.set.testBit) 3 : Nat) : Int), .slice B kt10.kids.len cap, .int .i64 kt10.lo, .int .i64 kt10.hi])
  have hC := known_go kt10 B cap (w.alloc (.cells #[.int .i64 kt10.kind, .int .u64 ((word (kt10.set.testBit) 0 : Nat) : Int), .int .u64 ((word (kt10.set.testBit) 1 : Nat) : Int), .int .u64 ((word (kt10.set.testBit) 2 : Nat) : Int), .int .u64 ((word (kt10.set.testBit) 3 : Nat) : Int), .slice B kt10.kids.len cap, .int .i64 kt10.lo, .int .i64 kt10.hi] 28)) (by decide) ((ht.below hb).weak (Q := fun b => b < (w.alloc (.cells #[.int .i64 kt10.kind, .int .u64 ((word (kt10.set.testBit) 0 : Nat) : Int), .int .u64 ((word (kt10.set.testBit) 1 : Nat) : Int), .int .u64 ((word (kt10.set.testBit) 2 : Nat) : Int), .int .u64 ((word (kt10.set.testBit) 3 : Nat) : Int), .slice B kt10.kids.len cap, .int .i64 kt10.lo, .int .i64 kt10.hi] 28)).heap.size) (fun b _ h => h))
  rw [known10, right10] at hC
  have HC := Lib.hid hC
  have HL := Lib.hid (fun (W : World) (hW : Below w.heap.size w W) => least10_go _ B cap W (ht.below hW) (TabAt.below hW hw0 hT) (Nat.lt_of_lt_of_le hw0 hW.size))
  obtain ⟨s1, s2, s3⟩ := sum10
  have HS1 := Lib.hid s1
  have HS2 := Lib.hid s2
  clear hb ht hC hT hw0 s1 s2 s3
  generalize kt10.sum = s at *
  generalize kt10 = x at *
  unfold ndV at HC HL ⊢
  go_enter Tryz.func13, Tryz.ntmps13
  go_upto_region 1 with fail
  generalize w.alloc (.cells #[.int .i64 x.kind, .int .u64 ((word (x.set.testBit) 0 : Nat) : Int), .int .u64 ((word (x.set.testBit) 1 : Nat) : Int), .int .u64 ((word (x.set.testBit) 2 : Nat) : Int), .int .u64 ((word (x.set.testBit) 3 : Nat) : Int), .slice B x.kids.len cap, .int .i64 x.lo, .int .i64 x.hi] 28) = w2 at *
  have n0 := (HN.out).cell 0
  have n1 := (HN.out).cell 1
  have n2 := (HN.out).cell 2
  have n3 := (HN.out).cell 3
  have n4 := (HN.out).cell 4
  have n5 := (HN.out).cell 5
  have n6 := (HN.out).cell 6
  have n7 := (HN.out).cell 7
  have hln := (HN.out).lt
  simp only [List.getElem?_toArray, List.getElem?_cons_zero, List.getElem?_cons_succ] at n0 n1 n2 n3 n4 n5 n6 n7
  go_wp2_with fail
  refine HC.out.mono ?_
  rintro e w3 ⟨rfl, hb3⟩
  have hbx : Below w3.heap.size w3 (w3.alloc (.cells (sumA s) 85)) := (Below.refl _ _).alloc (Nat.le_refl _) _
  have HX := Lib.hid (Blk.new w3 85 (sumA s))
  have hN3 := HN.out.below hb3 HN.out.lt
  have HN4 := Lib.hid (hN3.below hbx hN3.lt)
  have HB4 := Lib.hid ((HB.out.trans (hb3.mono HB.out.size)).trans (hbx.mono (by have := HB.out.size; have := hb3.size; omega)))
  clear hb3 hbx hN3 HC HB HN
  clear n0 n1 n2 n3 n4 n5 n6 n7 hln
  unfold sumV
  unfold sumA at *
  rw [HS1.out, HS2.out] at *
  dsimp only
  go_upto_region 2 with fail
  generalize w3.alloc (.cells #[.bool false, .int .i64 1, .int .i64 s.long, .int .u64 ((word (s.first) 0 : Nat) : Int), .int .u64 ((word (s.first) 1 : Nat) : Int), .int .u64 ((word (s.first) 2 : Nat) : Int), .int .u64 ((word (s.first) 3 : Nat) : Int), .int .u64 ((word (s.last) 0 : Nat) : Int), .int .u64 ((word (s.last) 1 : Nat) : Int), .int .u64 ((word (s.last) 2 : Nat) : Int), .int .u64 ((word (s.last) 3 : Nat) : Int)] 85) = w4 at *
  have x0 := HX.out.cell 0
  have x1 := HX.out.cell 1
  have hlx := HX.out.lt
  simp only [List.getElem?_toArray, List.getElem?_cons_zero, List.getElem?_cons_succ] at x0 x1
  have n0 := (HN4.out).cell 0
  have n1 := (HN4.out).cell 1
  have n2 := (HN4.out).cell 2
  have n3 := (HN4.out).cell 3
  have n4 := (HN4.out).cell 4
  have n5 := (HN4.out).cell 5
  have n6 := (HN4.out).cell 6
  have n7 := (HN4.out).cell 7
  have hln := (HN4.out).lt
  simp only [List.getElem?_toArray, List.getElem?_cons_zero, List.getElem?_cons_succ] at n0 n1 n2 n3 n4 n5 n6 n7
  have HC := Lib.hid (HL.out w4 HB4.out)
  go_wp2_with fail
  refine HC.out.mono ?_
  rintro e w5 ⟨A5, k5, rfl, hA5, hb5, _⟩
  have HB5 := Lib.hid (HB4.out.trans (hb5.mono HB4.out.size))
  have HA5 := Lib.hid hA5
  clear hb5 hA5 HC x0 x1 hlx
  clear n0 n1 n2 n3 n4 n5 n6 n7 hln
  dsimp only
  go_wp2
  go_light
  go_ret2
  exact ⟨_, _, rfl, HA5.out, HB5.out⟩
theorem tree10 (w : World) (n : Nat) (hn : n = w.heap.size) :
    Calls Tryz.prog 58 #[.slice (some ⟨n, 0, none⟩) 7 7] (w.alloc (.cells #[.int .u8 40, .int .u8 97, .int .u8 124, .int .u8 98, .int .u8 99, .int .u8 41, .int .u8 43] 5 (7, 8))) (TreeOut (.ok kt10) (w.alloc (.cells #[.int .u8 40, .int .u8 97, .int .u8 124, .int .u8 98, .int .u8 99, .int .u8 41, .int .u8 43] 5 (7, 8)))) := by
  have h := text_go07 (some ⟨n, 0, none⟩) 7 [40, 97, 124, 98, 99, 41, 43] _ (bytes_new w n [40, 97, 124, 98, 99, 41, 43] _ (7, 8) hn rfl (by decide) (by decide)) (by decide)
  rw [parse10] at h
  exact h
end Go.Proofs.YtfekpkelmliejaaGreatDoor
