/-
  The contract of reference 05's rep.
-/
import Derived.Test.YtajohcknenngnaaGreatQRNum
import Derived.Test.YtajohcknenngnaaGreatQZ01
namespace Go.Proofs.YtajohcknenngnaaGreat
open Go.RowKit
set_option linter.unusedSimpArgs false
set_option linter.unusedVariables false
set_option maxRecDepth 100000

theorem Blk.set8 {w : World} {g : Nat} {t : TypeId} {a0 a1 a2 a3 a4 a5 a6 a7 : Value} (h : Blk w g t #[a0, a1, a2, a3, a4, a5, a6, a7]) (b0 b1 b2 b3 b4 b5 b6 b7 : Value) : Blk ((((((((w.setCell ⟨g, 0, none⟩ b0).setCell ⟨g, 1, none⟩ b1).setCell ⟨g, 2, none⟩ b2).setCell ⟨g, 3, none⟩ b3).setCell ⟨g, 4, none⟩ b4).setCell ⟨g, 5, none⟩ b5).setCell ⟨g, 6, none⟩ b6).setCell ⟨g, 7, none⟩ b7) g t #[b0, b1, b2, b3, b4, b5, b6, b7] := by
  have h1 : Blk (w.setCell ⟨g, 0, none⟩ b0) g t #[b0, a1, a2, a3, a4, a5, a6, a7] := Blk.set_ h 0 b0
  have h2 : Blk ((w.setCell ⟨g, 0, none⟩ b0).setCell ⟨g, 1, none⟩ b1) g t #[b0, b1, a2, a3, a4, a5, a6, a7] := Blk.set_ h1 1 b1
  have h3 : Blk (((w.setCell ⟨g, 0, none⟩ b0).setCell ⟨g, 1, none⟩ b1).setCell ⟨g, 2, none⟩ b2) g t #[b0, b1, b2, a3, a4, a5, a6, a7] := Blk.set_ h2 2 b2
  have h4 : Blk ((((w.setCell ⟨g, 0, none⟩ b0).setCell ⟨g, 1, none⟩ b1).setCell ⟨g, 2, none⟩ b2).setCell ⟨g, 3, none⟩ b3) g t #[b0, b1, b2, b3, a4, a5, a6, a7] := Blk.set_ h3 3 b3
  have h5 : Blk (((((w.setCell ⟨g, 0, none⟩ b0).setCell ⟨g, 1, none⟩ b1).setCell ⟨g, 2, none⟩ b2).setCell ⟨g, 3, none⟩ b3).setCell ⟨g, 4, none⟩ b4) g t #[b0, b1, b2, b3, b4, a5, a6, a7] := Blk.set_ h4 4 b4
  have h6 : Blk ((((((w.setCell ⟨g, 0, none⟩ b0).setCell ⟨g, 1, none⟩ b1).setCell ⟨g, 2, none⟩ b2).setCell ⟨g, 3, none⟩ b3).setCell ⟨g, 4, none⟩ b4).setCell ⟨g, 5, none⟩ b5) g t #[b0, b1, b2, b3, b4, b5, a6, a7] := Blk.set_ h5 5 b5
  have h7 : Blk (((((((w.setCell ⟨g, 0, none⟩ b0).setCell ⟨g, 1, none⟩ b1).setCell ⟨g, 2, none⟩ b2).setCell ⟨g, 3, none⟩ b3).setCell ⟨g, 4, none⟩ b4).setCell ⟨g, 5, none⟩ b5).setCell ⟨g, 6, none⟩ b6) g t #[b0, b1, b2, b3, b4, b5, b6, a7] := Blk.set_ h6 6 b6
  have h8 : Blk ((((((((w.setCell ⟨g, 0, none⟩ b0).setCell ⟨g, 1, none⟩ b1).setCell ⟨g, 2, none⟩ b2).setCell ⟨g, 3, none⟩ b3).setCell ⟨g, 4, none⟩ b4).setCell ⟨g, 5, none⟩ b5).setCell ⟨g, 6, none⟩ b6).setCell ⟨g, 7, none⟩ b7) g t #[b0, b1, b2, b3, b4, b5, b6, b7] := Blk.set_ h7 7 b7
  exact h8
theorem Blk.far8 {w : World} {g g' : Nat} {t : TypeId} {cs : Array Value} (h : Blk w g t cs) (hg : g ≠ g') (b0 b1 b2 b3 b4 b5 b6 b7 : Value) : Blk ((((((((w.setCell ⟨g', 0, none⟩ b0).setCell ⟨g', 1, none⟩ b1).setCell ⟨g', 2, none⟩ b2).setCell ⟨g', 3, none⟩ b3).setCell ⟨g', 4, none⟩ b4).setCell ⟨g', 5, none⟩ b5).setCell ⟨g', 6, none⟩ b6).setCell ⟨g', 7, none⟩ b7) g t cs :=
  ((((((((h.far (p := ⟨g', 0, none⟩) hg b0).far (p := ⟨g', 1, none⟩) hg b1).far (p := ⟨g', 2, none⟩) hg b2).far (p := ⟨g', 3, none⟩) hg b3).far (p := ⟨g', 4, none⟩) hg b4).far (p := ⟨g', 5, none⟩) hg b5).far (p := ⟨g', 6, none⟩) hg b6).far (p := ⟨g', 7, none⟩) hg b7)
theorem below_set8 {B g : Nat} {a w : World} (h : Below B a w) (hg : B ≤ g) (b0 b1 b2 b3 b4 b5 b6 b7 : Value) : Below B a ((((((((w.setCell ⟨g, 0, none⟩ b0).setCell ⟨g, 1, none⟩ b1).setCell ⟨g, 2, none⟩ b2).setCell ⟨g, 3, none⟩ b3).setCell ⟨g, 4, none⟩ b4).setCell ⟨g, 5, none⟩ b5).setCell ⟨g, 6, none⟩ b6).setCell ⟨g, 7, none⟩ b7) :=
  ((((((((h.setCell (p := ⟨g, 0, none⟩) hg b0).setCell (p := ⟨g, 1, none⟩) hg b1).setCell (p := ⟨g, 2, none⟩) hg b2).setCell (p := ⟨g, 3, none⟩) hg b3).setCell (p := ⟨g, 4, none⟩) hg b4).setCell (p := ⟨g, 5, none⟩) hg b5).setCell (p := ⟨g, 6, none⟩) hg b6).setCell (p := ⟨g, 7, none⟩) hg b7)
theorem ret_one {fn : Func} {t4 t5 t6 : Tmp} (h : fn.results = #[.cell t4 93, .tmp t5, .cell t6 26]) {tmps : Array Value} {w : World} {g g' : Nat} {a0 a1 a2 a3 a4 a5 a6 a7 x y i : Value}
    (hp : tmps.getD t4 undef = .pointer (some ⟨g, 0, none⟩)) (hi : tmps.getD t5 undef = i) (hp' : tmps.getD t6 undef = .pointer (some ⟨g', 0, none⟩)) (hb : Blk w g 93 #[a0, a1, a2, a3, a4, a5, a6, a7]) (hb' : Blk w g' 26 #[x, y]) :
    (results fn tmps).run Tryz.prog w = .ok (.tuple #[.agg #[a0, a1, a2, a3, a4, a5, a6, a7], i, .agg #[x, y]]) w := by
  have h1 := run_loadVar_row (P := Tryz.prog) w g 93 93 #[a0, a1, a2, a3, a4, a5, a6, a7] (0, 0) _ hb Tryz.underlying93 rfl (by kernel_rfl)
  have h2 := run_loadVar_row (P := Tryz.prog) w g' 26 26 #[x, y] (0, 0) _ hb' Tryz.underlying26 rfl (by kernel_rfl)
  simp only [results, h]
  simp only [Array.getD_eq_getD_getElem?] at hp hi hp'
  simp [Sem.run_bind, hp, hi, hp', asAddr, h1, h2, Result.andThen]

/-- A lexeme's value. -/
def lexVal (x : Lex) : Value := .agg #[.int .i64 x.kind, .int .i64 x.place, .int .u64 ((word x.set 0 : Nat) : Int), .int .u64 ((word x.set 1 : Nat) : Int), .int .u64 ((word x.set 2 : Nat) : Int), .int .u64 ((word x.set 3 : Nat) : Int), .int .i64 x.lo, .int .i64 x.hi]
/-- No lexeme. -/
def lexZero : Value := .agg #[.int .i64 0, .int .i64 0, .int .u64 0, .int .u64 0, .int .u64 0, .int .u64 0, .int .i64 0, .int .i64 0]
/-- What the reference gives for a lexeme, the place behind, and what is wrong. -/
def oneVal (r : Except Wrong (Lex × Nat)) : Value :=
  match r with
  | .ok (x, j) => .tuple #[lexVal x, .int .i64 (j : Int), .agg #[.int .i64 0, .int .i64 0]]
  | .error (k, q) => .tuple #[lexZero, .int .i64 0, .agg #[.int .i64 k, .int .i64 q]]
theorem lexVal_no (kind place lo hi : Int) : lexVal ⟨kind, place, noSet, lo, hi⟩ = .agg #[.int .i64 kind, .int .i64 place, .int .u64 0, .int .u64 0, .int .u64 0, .int .u64 0, .int .i64 lo, .int .i64 hi] := by
  simp [lexVal, word_noSet]

set_option maxHeartbeats 4000000 in
theorem rrep_no (b o cap : Nat) (bs : List Nat) (i : Nat) (w : World) (hA : BytesAt w w.heap.size (some ⟨b, o, none⟩) bs) (h0 : i < bs.length) (hcap : bs.length ≤ cap) (ht : takeS bs (i + 1) = none) : Calls Tryz.prog 110 #[.slice (some ⟨b, o, none⟩) bs.length cap, .int .i64 (i : Int)] w fun e w' => e = .returned (oneVal (repS bs i)) ∧ Below w.heap.size w w' := by
  have HV := Lib.hid (show repS bs i = .error (16, (i : Int)) by unfold repS; rw [ht])
  have HV1 := Lib.hid (show takeVal bs (i + 1) = .tuple #[.int .i64 0, .int .i64 0, .int .i64 (takeErr bs (i + 1))] by unfold takeVal; rw [ht])
  have hk := takeErr_pos bs (i + 1)
  generalize takeErr bs (i + 1) = k at *
  have hk0 : (k != 0) = true := by rw [bne_iff_ne]; omega
  clear hk ht
  have hl := hA.2.1
  have hB := (((Below.refl w.heap.size w).alloc (Nat.le_refl _) (.cells #[.int .i64 0, .int .i64 0, .int .u64 0, .int .u64 0, .int .u64 0, .int .u64 0, .int .i64 0, .int .i64 0] 93)).alloc (by simp) (.cells #[.int .i64 0, .int .i64 0] 26)).alloc (by simp; omega) (.cells #[.int .i64 16, .int .i64 (i : Int)] 26)
  have hA3 := (hA.below hB).more hB.size
  have HT := Lib.hid (fun (j : Nat) (hj : j ≤ bs.length) => rtake_at b o cap bs j (((w.alloc (.cells #[.int .i64 0, .int .i64 0, .int .u64 0, .int .u64 0, .int .u64 0, .int .u64 0, .int .i64 0, .int .i64 0] 93)).alloc (.cells #[.int .i64 0, .int .i64 0] 26)).alloc (.cells #[.int .i64 16, .int .i64 (i : Int)] 26)) hA3 hcap hj)
  have hZ : Blk (((w.alloc (.cells #[.int .i64 0, .int .i64 0, .int .u64 0, .int .u64 0, .int .u64 0, .int .u64 0, .int .i64 0, .int .i64 0] 93)).alloc (.cells #[.int .i64 0, .int .i64 0] 26)).alloc (.cells #[.int .i64 16, .int .i64 (i : Int)] 26)) w.heap.size 93 #[.int .i64 0, .int .i64 0, .int .u64 0, .int .u64 0, .int .u64 0, .int .u64 0, .int .i64 0, .int .i64 0] := ((Blk.new _ _ _).alloc _).alloc _
  have hW : Blk (((w.alloc (.cells #[.int .i64 0, .int .i64 0, .int .u64 0, .int .u64 0, .int .u64 0, .int .u64 0, .int .i64 0, .int .i64 0] 93)).alloc (.cells #[.int .i64 0, .int .i64 0] 26)).alloc (.cells #[.int .i64 16, .int .i64 (i : Int)] 26)) (w.heap.size + 1) 26 #[.int .i64 0, .int .i64 0] := (Blk.new_at (by simp)).alloc _
  have hO : Blk (((w.alloc (.cells #[.int .i64 0, .int .i64 0, .int .u64 0, .int .u64 0, .int .u64 0, .int .u64 0, .int .i64 0, .int .i64 0] 93)).alloc (.cells #[.int .i64 0, .int .i64 0] 26)).alloc (.cells #[.int .i64 16, .int .i64 (i : Int)] 26)) (w.heap.size + 1 + 1) 26 #[.int .i64 16, .int .i64 (i : Int)] := Blk.new_at (by simp)
  have HCells := Lib.hid (bytesAt_cells hA3)
  obtain ⟨o0, o1, o2, o3⟩ := hO.c2
  obtain ⟨q0, q1, q2, q3⟩ := hW.c2
  have z0 := hZ.cell 0
  have y0 := hZ.frozen 0
  have z1 := hZ.cell 1
  have y1 := hZ.frozen 1
  have z2 := hZ.cell 2
  have y2 := hZ.frozen 2
  have z3 := hZ.cell 3
  have y3 := hZ.frozen 3
  have z4 := hZ.cell 4
  have y4 := hZ.frozen 4
  have z5 := hZ.cell 5
  have y5 := hZ.frozen 5
  have z6 := hZ.cell 6
  have y6 := hZ.frozen 6
  have z7 := hZ.cell 7
  have y7 := hZ.frozen 7
  have HZ := Lib.hid hZ
  have HW := Lib.hid hW
  have HB := Lib.hid hB
  clear hZ hW hO hB hA3 hA
  go_enter Tryz.func110, Tryz.ntmps110
  go_wp2_with fail
  refine (HT.out (i + 1) (by omega)).mono ?_
  generalize (((w.alloc (.cells #[.int .i64 0, .int .i64 0, .int .u64 0, .int .u64 0, .int .u64 0, .int .u64 0, .int .i64 0, .int .i64 0] 93)).alloc (.cells #[.int .i64 0, .int .i64 0] 26)).alloc (.cells #[.int .i64 16, .int .i64 (i : Int)] 26)) = w3 at *
  rintro e w4 ⟨rfl, rfl⟩
  rw [HV1.out]

  go_wp2
  go_region
  all_goals go_wp2
  all_goals go_light
  all_goals rw [HV.out]
  refine bodyPost_ret (ret_one Tryz.results110 rfl rfl rfl ((HZ.out.set8 _ _ _ _ _ _ _ _).far2 (by omega) _ _).drew ((HW.out.far8 (by omega) _ _ _ _ _ _ _ _).set2).drew) rfl ⟨rfl, (below_set2 (below_set8 HB.out (Nat.le_refl _) _ _ _ _ _ _ _ _) (by omega) _ _).drew⟩



theorem takeS_out {bs : List Nat} {i : Nat} (h : bs.length ≤ i) : takeS bs i = none := (takeS_bad (by unfold digs; rw [List.drop_eq_nil_of_le h]; rfl)).1
set_option maxHeartbeats 4000000 in
theorem rrep_end (b o cap : Nat) (bs : List Nat) (i : Nat) (w : World) (hA : BytesAt w w.heap.size (some ⟨b, o, none⟩) bs) (h0 : i < bs.length) (hcap : bs.length ≤ cap) {lo j : Nat} (ht : takeS bs (i + 1) = some (lo, j)) (hj : bs.length ≤ j) : Calls Tryz.prog 110 #[.slice (some ⟨b, o, none⟩) bs.length cap, .int .i64 (i : Int)] w fun e w' => e = .returned (oneVal (repS bs i)) ∧ Below w.heap.size w w' := by
  have HV := Lib.hid (show repS bs i = .error (16, (i : Int)) by unfold repS; simp [ht, hasAt_out (bs := bs) (i := (j : Int)) 44 (by omega), hasAt_out (bs := bs) (i := (j : Int)) 125 (by omega)])
  have HV1 := Lib.hid (show takeVal bs (i + 1) = .tuple #[.int .i64 (lo : Int), .int .i64 (j : Int), .int .i64 0] by unfold takeVal; rw [ht])
  have hjj := takeS_some ht
  clear ht
  have hl := hA.2.1
  have hB := (((Below.refl w.heap.size w).alloc (Nat.le_refl _) (.cells #[.int .i64 0, .int .i64 0, .int .u64 0, .int .u64 0, .int .u64 0, .int .u64 0, .int .i64 0, .int .i64 0] 93)).alloc (by simp) (.cells #[.int .i64 0, .int .i64 0] 26)).alloc (by simp; omega) (.cells #[.int .i64 16, .int .i64 (i : Int)] 26)
  have hA3 := (hA.below hB).more hB.size
  have HT := Lib.hid (fun (j : Nat) (hj : j ≤ bs.length) => rtake_at b o cap bs j (((w.alloc (.cells #[.int .i64 0, .int .i64 0, .int .u64 0, .int .u64 0, .int .u64 0, .int .u64 0, .int .i64 0, .int .i64 0] 93)).alloc (.cells #[.int .i64 0, .int .i64 0] 26)).alloc (.cells #[.int .i64 16, .int .i64 (i : Int)] 26)) hA3 hcap hj)
  have hZ : Blk (((w.alloc (.cells #[.int .i64 0, .int .i64 0, .int .u64 0, .int .u64 0, .int .u64 0, .int .u64 0, .int .i64 0, .int .i64 0] 93)).alloc (.cells #[.int .i64 0, .int .i64 0] 26)).alloc (.cells #[.int .i64 16, .int .i64 (i : Int)] 26)) w.heap.size 93 #[.int .i64 0, .int .i64 0, .int .u64 0, .int .u64 0, .int .u64 0, .int .u64 0, .int .i64 0, .int .i64 0] := ((Blk.new _ _ _).alloc _).alloc _
  have hW : Blk (((w.alloc (.cells #[.int .i64 0, .int .i64 0, .int .u64 0, .int .u64 0, .int .u64 0, .int .u64 0, .int .i64 0, .int .i64 0] 93)).alloc (.cells #[.int .i64 0, .int .i64 0] 26)).alloc (.cells #[.int .i64 16, .int .i64 (i : Int)] 26)) (w.heap.size + 1) 26 #[.int .i64 0, .int .i64 0] := (Blk.new_at (by simp)).alloc _
  have hO : Blk (((w.alloc (.cells #[.int .i64 0, .int .i64 0, .int .u64 0, .int .u64 0, .int .u64 0, .int .u64 0, .int .i64 0, .int .i64 0] 93)).alloc (.cells #[.int .i64 0, .int .i64 0] 26)).alloc (.cells #[.int .i64 16, .int .i64 (i : Int)] 26)) (w.heap.size + 1 + 1) 26 #[.int .i64 16, .int .i64 (i : Int)] := Blk.new_at (by simp)
  have HCells := Lib.hid (bytesAt_cells hA3)
  obtain ⟨o0, o1, o2, o3⟩ := hO.c2
  obtain ⟨q0, q1, q2, q3⟩ := hW.c2
  have z0 := hZ.cell 0
  have y0 := hZ.frozen 0
  have z1 := hZ.cell 1
  have y1 := hZ.frozen 1
  have z2 := hZ.cell 2
  have y2 := hZ.frozen 2
  have z3 := hZ.cell 3
  have y3 := hZ.frozen 3
  have z4 := hZ.cell 4
  have y4 := hZ.frozen 4
  have z5 := hZ.cell 5
  have y5 := hZ.frozen 5
  have z6 := hZ.cell 6
  have y6 := hZ.frozen 6
  have z7 := hZ.cell 7
  have y7 := hZ.frozen 7
  have HZ := Lib.hid hZ
  have HW := Lib.hid hW
  have HB := Lib.hid hB
  clear hZ hW hO hB hA3 hA
  go_enter Tryz.func110, Tryz.ntmps110
  go_wp2_with fail
  refine (HT.out (i + 1) (by omega)).mono ?_
  generalize (((w.alloc (.cells #[.int .i64 0, .int .i64 0, .int .u64 0, .int .u64 0, .int .u64 0, .int .u64 0, .int .i64 0, .int .i64 0] 93)).alloc (.cells #[.int .i64 0, .int .i64 0] 26)).alloc (.cells #[.int .i64 16, .int .i64 (i : Int)] 26)) = w3 at *
  rintro e w4 ⟨rfl, rfl⟩
  rw [HV1.out]


  have hdj : (bs.length : Int) ≤ (j : Int) := by omega
  have hdk : decide ((bs.length : Int) ≤ (j : Int)) = true := by simp; omega
  go_wp2
  go_region
  all_goals go_wp2
  all_goals go_light
  all_goals rw [HV.out]
  refine bodyPost_ret (ret_one Tryz.results110 rfl rfl rfl ((HZ.out.set8 _ _ _ _ _ _ _ _).far2 (by omega) _ _).drew ((HW.out.far8 (by omega) _ _ _ _ _ _ _ _).set2).drew) rfl ⟨rfl, (below_set2 (below_set8 HB.out (Nat.le_refl _) _ _ _ _ _ _ _ _) (by omega) _ _).drew⟩


set_option maxHeartbeats 4000000 in
theorem rrep_c1 (b o cap : Nat) (bs : List Nat) (i : Nat) (w : World) (hA : BytesAt w w.heap.size (some ⟨b, o, none⟩) bs) (h0 : i < bs.length) (hcap : bs.length ≤ cap) {lo j : Nat} (ht : takeS bs (i + 1) = some (lo, j)) (hj : j < bs.length) (h1 : byteAt bs j ≠ 44) (h2 : byteAt bs j ≠ 125) : Calls Tryz.prog 110 #[.slice (some ⟨b, o, none⟩) bs.length cap, .int .i64 (i : Int)] w fun e w' => e = .returned (oneVal (repS bs i)) ∧ Below w.heap.size w w' := by
  have HV := Lib.hid (show repS bs i = .error (16, (i : Int)) by unfold repS; simp [ht, hasAt_in 44 hj, hasAt_in 125 hj, h1, h2])
  have b44 : ((byteAt bs j : Int) == 44) = false := by simp; omega
  have b125 : ((byteAt bs j : Int) != 125) = true := by simp; omega
  clear h1 h2
  have HV1 := Lib.hid (show takeVal bs (i + 1) = .tuple #[.int .i64 (lo : Int), .int .i64 (j : Int), .int .i64 0] by unfold takeVal; rw [ht])
  have hjj := takeS_some ht
  clear ht
  have hl := hA.2.1
  have hB := (((Below.refl w.heap.size w).alloc (Nat.le_refl _) (.cells #[.int .i64 0, .int .i64 0, .int .u64 0, .int .u64 0, .int .u64 0, .int .u64 0, .int .i64 0, .int .i64 0] 93)).alloc (by simp) (.cells #[.int .i64 0, .int .i64 0] 26)).alloc (by simp; omega) (.cells #[.int .i64 16, .int .i64 (i : Int)] 26)
  have hA3 := (hA.below hB).more hB.size
  have HT := Lib.hid (fun (j : Nat) (hj : j ≤ bs.length) => rtake_at b o cap bs j (((w.alloc (.cells #[.int .i64 0, .int .i64 0, .int .u64 0, .int .u64 0, .int .u64 0, .int .u64 0, .int .i64 0, .int .i64 0] 93)).alloc (.cells #[.int .i64 0, .int .i64 0] 26)).alloc (.cells #[.int .i64 16, .int .i64 (i : Int)] 26)) hA3 hcap hj)
  have hZ : Blk (((w.alloc (.cells #[.int .i64 0, .int .i64 0, .int .u64 0, .int .u64 0, .int .u64 0, .int .u64 0, .int .i64 0, .int .i64 0] 93)).alloc (.cells #[.int .i64 0, .int .i64 0] 26)).alloc (.cells #[.int .i64 16, .int .i64 (i : Int)] 26)) w.heap.size 93 #[.int .i64 0, .int .i64 0, .int .u64 0, .int .u64 0, .int .u64 0, .int .u64 0, .int .i64 0, .int .i64 0] := ((Blk.new _ _ _).alloc _).alloc _
  have hW : Blk (((w.alloc (.cells #[.int .i64 0, .int .i64 0, .int .u64 0, .int .u64 0, .int .u64 0, .int .u64 0, .int .i64 0, .int .i64 0] 93)).alloc (.cells #[.int .i64 0, .int .i64 0] 26)).alloc (.cells #[.int .i64 16, .int .i64 (i : Int)] 26)) (w.heap.size + 1) 26 #[.int .i64 0, .int .i64 0] := (Blk.new_at (by simp)).alloc _
  have hO : Blk (((w.alloc (.cells #[.int .i64 0, .int .i64 0, .int .u64 0, .int .u64 0, .int .u64 0, .int .u64 0, .int .i64 0, .int .i64 0] 93)).alloc (.cells #[.int .i64 0, .int .i64 0] 26)).alloc (.cells #[.int .i64 16, .int .i64 (i : Int)] 26)) (w.heap.size + 1 + 1) 26 #[.int .i64 16, .int .i64 (i : Int)] := Blk.new_at (by simp)
  have HCells := Lib.hid (bytesAt_cells hA3)
  obtain ⟨o0, o1, o2, o3⟩ := hO.c2
  obtain ⟨q0, q1, q2, q3⟩ := hW.c2
  have z0 := hZ.cell 0
  have y0 := hZ.frozen 0
  have z1 := hZ.cell 1
  have y1 := hZ.frozen 1
  have z2 := hZ.cell 2
  have y2 := hZ.frozen 2
  have z3 := hZ.cell 3
  have y3 := hZ.frozen 3
  have z4 := hZ.cell 4
  have y4 := hZ.frozen 4
  have z5 := hZ.cell 5
  have y5 := hZ.frozen 5
  have z6 := hZ.cell 6
  have y6 := hZ.frozen 6
  have z7 := hZ.cell 7
  have y7 := hZ.frozen 7
  have HZ := Lib.hid hZ
  have HW := Lib.hid hW
  have HB := Lib.hid hB
  clear hZ hW hO hB hA3 hA
  go_enter Tryz.func110, Tryz.ntmps110
  go_wp2_with fail
  refine (HT.out (i + 1) (by omega)).mono ?_
  generalize (((w.alloc (.cells #[.int .i64 0, .int .i64 0, .int .u64 0, .int .u64 0, .int .u64 0, .int .u64 0, .int .i64 0, .int .i64 0] 93)).alloc (.cells #[.int .i64 0, .int .i64 0] 26)).alloc (.cells #[.int .i64 16, .int .i64 (i : Int)] 26)) = w3 at *
  rintro e w4 ⟨rfl, rfl⟩
  rw [HV1.out]


  have hdj : ¬ (bs.length : Int) ≤ (j : Int) := by omega
  have hdk : decide ((bs.length : Int) ≤ (j : Int)) = false := by simp; omega
  have hdm : (j : Int) < (bs.length : Int) := by omega
  have c1 := HCells.out j hj

  generalize byteAt bs j = c at *
  go_wp2
  go_region
  all_goals go_wp2
  all_goals go_light
  all_goals rw [HV.out]
  refine bodyPost_ret (ret_one Tryz.results110 rfl rfl rfl ((HZ.out.set8 _ _ _ _ _ _ _ _).far2 (by omega) _ _).drew ((HW.out.far8 (by omega) _ _ _ _ _ _ _ _).set2).drew) rfl ⟨rfl, (below_set2 (below_set8 HB.out (Nat.le_refl _) _ _ _ _ _ _ _ _) (by omega) _ _).drew⟩


set_option maxHeartbeats 4000000 in
theorem rrep_c2 (b o cap : Nat) (bs : List Nat) (i : Nat) (w : World) (hA : BytesAt w w.heap.size (some ⟨b, o, none⟩) bs) (h0 : i < bs.length) (hcap : bs.length ≤ cap) {lo j : Nat} (ht : takeS bs (i + 1) = some (lo, j)) (hj : j < bs.length) (h1 : byteAt bs j = 125) : Calls Tryz.prog 110 #[.slice (some ⟨b, o, none⟩) bs.length cap, .int .i64 (i : Int)] w fun e w' => e = .returned (oneVal (repS bs i)) ∧ Below w.heap.size w w' := by
  have HV := Lib.hid (show repS bs i = .ok (⟨8, (i : Int), noSet, (lo : Int), (lo : Int)⟩, j + 1) by unfold repS; simp [ht, hasAt_in 44 hj, hasAt_in 125 hj, h1])
  have HV1 := Lib.hid (show takeVal bs (i + 1) = .tuple #[.int .i64 (lo : Int), .int .i64 (j : Int), .int .i64 0] by unfold takeVal; rw [ht])
  have hjj := takeS_some ht
  clear ht
  have hl := hA.2.1
  have hB := (((Below.refl w.heap.size w).alloc (Nat.le_refl _) (.cells #[.int .i64 0, .int .i64 0, .int .u64 0, .int .u64 0, .int .u64 0, .int .u64 0, .int .i64 0, .int .i64 0] 93)).alloc (by simp) (.cells #[.int .i64 0, .int .i64 0] 26)).alloc (by simp; omega) (.cells #[.int .i64 16, .int .i64 (i : Int)] 26)
  have hA3 := (hA.below hB).more hB.size
  have HT := Lib.hid (fun (j : Nat) (hj : j ≤ bs.length) => rtake_at b o cap bs j (((w.alloc (.cells #[.int .i64 0, .int .i64 0, .int .u64 0, .int .u64 0, .int .u64 0, .int .u64 0, .int .i64 0, .int .i64 0] 93)).alloc (.cells #[.int .i64 0, .int .i64 0] 26)).alloc (.cells #[.int .i64 16, .int .i64 (i : Int)] 26)) hA3 hcap hj)
  have hZ : Blk (((w.alloc (.cells #[.int .i64 0, .int .i64 0, .int .u64 0, .int .u64 0, .int .u64 0, .int .u64 0, .int .i64 0, .int .i64 0] 93)).alloc (.cells #[.int .i64 0, .int .i64 0] 26)).alloc (.cells #[.int .i64 16, .int .i64 (i : Int)] 26)) w.heap.size 93 #[.int .i64 0, .int .i64 0, .int .u64 0, .int .u64 0, .int .u64 0, .int .u64 0, .int .i64 0, .int .i64 0] := ((Blk.new _ _ _).alloc _).alloc _
  have hW : Blk (((w.alloc (.cells #[.int .i64 0, .int .i64 0, .int .u64 0, .int .u64 0, .int .u64 0, .int .u64 0, .int .i64 0, .int .i64 0] 93)).alloc (.cells #[.int .i64 0, .int .i64 0] 26)).alloc (.cells #[.int .i64 16, .int .i64 (i : Int)] 26)) (w.heap.size + 1) 26 #[.int .i64 0, .int .i64 0] := (Blk.new_at (by simp)).alloc _
  have hO : Blk (((w.alloc (.cells #[.int .i64 0, .int .i64 0, .int .u64 0, .int .u64 0, .int .u64 0, .int .u64 0, .int .i64 0, .int .i64 0] 93)).alloc (.cells #[.int .i64 0, .int .i64 0] 26)).alloc (.cells #[.int .i64 16, .int .i64 (i : Int)] 26)) (w.heap.size + 1 + 1) 26 #[.int .i64 16, .int .i64 (i : Int)] := Blk.new_at (by simp)
  have HCells := Lib.hid (bytesAt_cells hA3)
  obtain ⟨o0, o1, o2, o3⟩ := hO.c2
  obtain ⟨q0, q1, q2, q3⟩ := hW.c2
  have z0 := hZ.cell 0
  have y0 := hZ.frozen 0
  have z1 := hZ.cell 1
  have y1 := hZ.frozen 1
  have z2 := hZ.cell 2
  have y2 := hZ.frozen 2
  have z3 := hZ.cell 3
  have y3 := hZ.frozen 3
  have z4 := hZ.cell 4
  have y4 := hZ.frozen 4
  have z5 := hZ.cell 5
  have y5 := hZ.frozen 5
  have z6 := hZ.cell 6
  have y6 := hZ.frozen 6
  have z7 := hZ.cell 7
  have y7 := hZ.frozen 7
  have HZ := Lib.hid hZ
  have HW := Lib.hid hW
  have HB := Lib.hid hB
  clear hZ hW hO hB hA3 hA
  go_enter Tryz.func110, Tryz.ntmps110
  go_wp2_with fail
  refine (HT.out (i + 1) (by omega)).mono ?_
  generalize (((w.alloc (.cells #[.int .i64 0, .int .i64 0, .int .u64 0, .int .u64 0, .int .u64 0, .int .u64 0, .int .i64 0, .int .i64 0] 93)).alloc (.cells #[.int .i64 0, .int .i64 0] 26)).alloc (.cells #[.int .i64 16, .int .i64 (i : Int)] 26)) = w3 at *
  rintro e w4 ⟨rfl, rfl⟩
  rw [HV1.out]


  have hdj : ¬ (bs.length : Int) ≤ (j : Int) := by omega
  have hdk : decide ((bs.length : Int) ≤ (j : Int)) = false := by simp; omega
  have hdm : (j : Int) < (bs.length : Int) := by omega
  have c1 := HCells.out j hj

  rw [h1] at c1
  have hlo0 : decide ((0 : Int) ≤ (lo : Int)) = true := by simp
  have hll : decide ((lo : Int) < (lo : Int)) = false := by simp
  clear h1
  go_wp2
  all_goals go_light
  all_goals rw [HV.out]
  refine bodyPost_ret (ret_one Tryz.results110 rfl rfl rfl ((HZ.out.set8 _ _ _ _ _ _ _ _).far2 (by omega) _ _) ((HW.out.far8 (by omega) _ _ _ _ _ _ _ _).set2)) rfl ⟨by unfold oneVal; dsimp only; rw [lexVal_no]; rfl, (below_set2 (below_set8 HB.out (Nat.le_refl _) _ _ _ _ _ _ _ _) (by omega) _ _)⟩

set_option maxHeartbeats 4000000 in
theorem rrep_d1 (b o cap : Nat) (bs : List Nat) (i : Nat) (w : World) (hA : BytesAt w w.heap.size (some ⟨b, o, none⟩) bs) (h0 : i < bs.length) (hcap : bs.length ≤ cap) {lo j : Nat} (ht : takeS bs (i + 1) = some (lo, j)) (hj : j < bs.length) (h0' : byteAt bs j = 44) (h1 : bs.length ≤ j + 1) : Calls Tryz.prog 110 #[.slice (some ⟨b, o, none⟩) bs.length cap, .int .i64 (i : Int)] w fun e w' => e = .returned (oneVal (repS bs i)) ∧ Below w.heap.size w w' := by
  have h44 : hasAt bs (j : Int) 44 = true := by rw [hasAt_in 44 hj, h0']; rfl

  have HV := Lib.hid (show repS bs i = .error (16, (i : Int)) by unfold repS; simp [ht, h44, hasAt_out (bs := bs) (i := (j : Int) + 1) 125 (by omega), takeS_out h1])
  clear h44
  have HV1 := Lib.hid (show takeVal bs (i + 1) = .tuple #[.int .i64 (lo : Int), .int .i64 (j : Int), .int .i64 0] by unfold takeVal; rw [ht])
  have hjj := takeS_some ht
  clear ht
  have hl := hA.2.1
  have hB := (((Below.refl w.heap.size w).alloc (Nat.le_refl _) (.cells #[.int .i64 0, .int .i64 0, .int .u64 0, .int .u64 0, .int .u64 0, .int .u64 0, .int .i64 0, .int .i64 0] 93)).alloc (by simp) (.cells #[.int .i64 0, .int .i64 0] 26)).alloc (by simp; omega) (.cells #[.int .i64 16, .int .i64 (i : Int)] 26)
  have hA3 := (hA.below hB).more hB.size
  have HT := Lib.hid (fun (j : Nat) (hj : j ≤ bs.length) => rtake_at b o cap bs j (((w.alloc (.cells #[.int .i64 0, .int .i64 0, .int .u64 0, .int .u64 0, .int .u64 0, .int .u64 0, .int .i64 0, .int .i64 0] 93)).alloc (.cells #[.int .i64 0, .int .i64 0] 26)).alloc (.cells #[.int .i64 16, .int .i64 (i : Int)] 26)) hA3 hcap hj)
  have hZ : Blk (((w.alloc (.cells #[.int .i64 0, .int .i64 0, .int .u64 0, .int .u64 0, .int .u64 0, .int .u64 0, .int .i64 0, .int .i64 0] 93)).alloc (.cells #[.int .i64 0, .int .i64 0] 26)).alloc (.cells #[.int .i64 16, .int .i64 (i : Int)] 26)) w.heap.size 93 #[.int .i64 0, .int .i64 0, .int .u64 0, .int .u64 0, .int .u64 0, .int .u64 0, .int .i64 0, .int .i64 0] := ((Blk.new _ _ _).alloc _).alloc _
  have hW : Blk (((w.alloc (.cells #[.int .i64 0, .int .i64 0, .int .u64 0, .int .u64 0, .int .u64 0, .int .u64 0, .int .i64 0, .int .i64 0] 93)).alloc (.cells #[.int .i64 0, .int .i64 0] 26)).alloc (.cells #[.int .i64 16, .int .i64 (i : Int)] 26)) (w.heap.size + 1) 26 #[.int .i64 0, .int .i64 0] := (Blk.new_at (by simp)).alloc _
  have hO : Blk (((w.alloc (.cells #[.int .i64 0, .int .i64 0, .int .u64 0, .int .u64 0, .int .u64 0, .int .u64 0, .int .i64 0, .int .i64 0] 93)).alloc (.cells #[.int .i64 0, .int .i64 0] 26)).alloc (.cells #[.int .i64 16, .int .i64 (i : Int)] 26)) (w.heap.size + 1 + 1) 26 #[.int .i64 16, .int .i64 (i : Int)] := Blk.new_at (by simp)
  have HCells := Lib.hid (bytesAt_cells hA3)
  obtain ⟨o0, o1, o2, o3⟩ := hO.c2
  obtain ⟨q0, q1, q2, q3⟩ := hW.c2
  have z0 := hZ.cell 0
  have y0 := hZ.frozen 0
  have z1 := hZ.cell 1
  have y1 := hZ.frozen 1
  have z2 := hZ.cell 2
  have y2 := hZ.frozen 2
  have z3 := hZ.cell 3
  have y3 := hZ.frozen 3
  have z4 := hZ.cell 4
  have y4 := hZ.frozen 4
  have z5 := hZ.cell 5
  have y5 := hZ.frozen 5
  have z6 := hZ.cell 6
  have y6 := hZ.frozen 6
  have z7 := hZ.cell 7
  have y7 := hZ.frozen 7
  have HZ := Lib.hid hZ
  have HW := Lib.hid hW
  have HB := Lib.hid hB
  clear hZ hW hO hB hA3 hA
  go_enter Tryz.func110, Tryz.ntmps110
  go_wp2_with fail
  refine (HT.out (i + 1) (by omega)).mono ?_
  generalize (((w.alloc (.cells #[.int .i64 0, .int .i64 0, .int .u64 0, .int .u64 0, .int .u64 0, .int .u64 0, .int .i64 0, .int .i64 0] 93)).alloc (.cells #[.int .i64 0, .int .i64 0] 26)).alloc (.cells #[.int .i64 16, .int .i64 (i : Int)] 26)) = w3 at *
  rintro e w4 ⟨rfl, rfl⟩
  rw [HV1.out]


  have hdj : ¬ (bs.length : Int) ≤ (j : Int) := by omega
  have hdk : decide ((bs.length : Int) ≤ (j : Int)) = false := by simp; omega
  have hdm : (j : Int) < (bs.length : Int) := by omega
  have c1 := HCells.out j hj

  rw [h0'] at c1
  have hel : (bs.length : Int) ≤ (j : Int) + 1 := by omega
  have hek : decide ((bs.length : Int) ≤ (j : Int) + 1) = true := by simp; omega
  have hen : decide ((j : Int) + 1 < (bs.length : Int)) = false := by simp; omega
  clear h0'
  go_wp2
  go_region
  all_goals go_wp2
  all_goals go_light
  all_goals rw [HV.out]
  refine bodyPost_ret (ret_one Tryz.results110 rfl rfl rfl ((HZ.out.set8 _ _ _ _ _ _ _ _).far2 (by omega) _ _).drew ((HW.out.far8 (by omega) _ _ _ _ _ _ _ _).set2).drew) rfl ⟨rfl, (below_set2 (below_set8 HB.out (Nat.le_refl _) _ _ _ _ _ _ _ _) (by omega) _ _).drew⟩


set_option maxHeartbeats 4000000 in
theorem rrep_d2 (b o cap : Nat) (bs : List Nat) (i : Nat) (w : World) (hA : BytesAt w w.heap.size (some ⟨b, o, none⟩) bs) (h0 : i < bs.length) (hcap : bs.length ≤ cap) {lo j : Nat} (ht : takeS bs (i + 1) = some (lo, j)) (hj : j < bs.length) (h0' : byteAt bs j = 44) (h1 : j + 1 < bs.length) (h2 : byteAt bs (j + 1) = 125) : Calls Tryz.prog 110 #[.slice (some ⟨b, o, none⟩) bs.length cap, .int .i64 (i : Int)] w fun e w' => e = .returned (oneVal (repS bs i)) ∧ Below w.heap.size w w' := by
  have h44 : hasAt bs (j : Int) 44 = true := by rw [hasAt_in 44 hj, h0']; rfl

  have h125 : hasAt bs ((j : Int) + 1) 125 = (byteAt bs (j + 1) == 125) := hasAt_in (i := j + 1) 125 h1

  have HV := Lib.hid (show repS bs i = .ok (⟨8, (i : Int), noSet, (lo : Int), -1⟩, j + 2) by unfold repS; simp [ht, h44, h125, h2])
  clear h44 h125
  have HV1 := Lib.hid (show takeVal bs (i + 1) = .tuple #[.int .i64 (lo : Int), .int .i64 (j : Int), .int .i64 0] by unfold takeVal; rw [ht])
  have hjj := takeS_some ht
  clear ht
  have hl := hA.2.1
  have hB := (((Below.refl w.heap.size w).alloc (Nat.le_refl _) (.cells #[.int .i64 0, .int .i64 0, .int .u64 0, .int .u64 0, .int .u64 0, .int .u64 0, .int .i64 0, .int .i64 0] 93)).alloc (by simp) (.cells #[.int .i64 0, .int .i64 0] 26)).alloc (by simp; omega) (.cells #[.int .i64 16, .int .i64 (i : Int)] 26)
  have hA3 := (hA.below hB).more hB.size
  have HT := Lib.hid (fun (j : Nat) (hj : j ≤ bs.length) => rtake_at b o cap bs j (((w.alloc (.cells #[.int .i64 0, .int .i64 0, .int .u64 0, .int .u64 0, .int .u64 0, .int .u64 0, .int .i64 0, .int .i64 0] 93)).alloc (.cells #[.int .i64 0, .int .i64 0] 26)).alloc (.cells #[.int .i64 16, .int .i64 (i : Int)] 26)) hA3 hcap hj)
  have hZ : Blk (((w.alloc (.cells #[.int .i64 0, .int .i64 0, .int .u64 0, .int .u64 0, .int .u64 0, .int .u64 0, .int .i64 0, .int .i64 0] 93)).alloc (.cells #[.int .i64 0, .int .i64 0] 26)).alloc (.cells #[.int .i64 16, .int .i64 (i : Int)] 26)) w.heap.size 93 #[.int .i64 0, .int .i64 0, .int .u64 0, .int .u64 0, .int .u64 0, .int .u64 0, .int .i64 0, .int .i64 0] := ((Blk.new _ _ _).alloc _).alloc _
  have hW : Blk (((w.alloc (.cells #[.int .i64 0, .int .i64 0, .int .u64 0, .int .u64 0, .int .u64 0, .int .u64 0, .int .i64 0, .int .i64 0] 93)).alloc (.cells #[.int .i64 0, .int .i64 0] 26)).alloc (.cells #[.int .i64 16, .int .i64 (i : Int)] 26)) (w.heap.size + 1) 26 #[.int .i64 0, .int .i64 0] := (Blk.new_at (by simp)).alloc _
  have hO : Blk (((w.alloc (.cells #[.int .i64 0, .int .i64 0, .int .u64 0, .int .u64 0, .int .u64 0, .int .u64 0, .int .i64 0, .int .i64 0] 93)).alloc (.cells #[.int .i64 0, .int .i64 0] 26)).alloc (.cells #[.int .i64 16, .int .i64 (i : Int)] 26)) (w.heap.size + 1 + 1) 26 #[.int .i64 16, .int .i64 (i : Int)] := Blk.new_at (by simp)
  have HCells := Lib.hid (bytesAt_cells hA3)
  obtain ⟨o0, o1, o2, o3⟩ := hO.c2
  obtain ⟨q0, q1, q2, q3⟩ := hW.c2
  have z0 := hZ.cell 0
  have y0 := hZ.frozen 0
  have z1 := hZ.cell 1
  have y1 := hZ.frozen 1
  have z2 := hZ.cell 2
  have y2 := hZ.frozen 2
  have z3 := hZ.cell 3
  have y3 := hZ.frozen 3
  have z4 := hZ.cell 4
  have y4 := hZ.frozen 4
  have z5 := hZ.cell 5
  have y5 := hZ.frozen 5
  have z6 := hZ.cell 6
  have y6 := hZ.frozen 6
  have z7 := hZ.cell 7
  have y7 := hZ.frozen 7
  have HZ := Lib.hid hZ
  have HW := Lib.hid hW
  have HB := Lib.hid hB
  clear hZ hW hO hB hA3 hA
  go_enter Tryz.func110, Tryz.ntmps110
  go_wp2_with fail
  refine (HT.out (i + 1) (by omega)).mono ?_
  generalize (((w.alloc (.cells #[.int .i64 0, .int .i64 0, .int .u64 0, .int .u64 0, .int .u64 0, .int .u64 0, .int .i64 0, .int .i64 0] 93)).alloc (.cells #[.int .i64 0, .int .i64 0] 26)).alloc (.cells #[.int .i64 16, .int .i64 (i : Int)] 26)) = w3 at *
  rintro e w4 ⟨rfl, rfl⟩
  rw [HV1.out]


  have hdj : ¬ (bs.length : Int) ≤ (j : Int) := by omega
  have hdk : decide ((bs.length : Int) ≤ (j : Int)) = false := by simp; omega
  have hdm : (j : Int) < (bs.length : Int) := by omega
  have c1 := HCells.out j hj

  have hel : ¬ (bs.length : Int) ≤ (j : Int) + 1 := by omega
  have hek : decide ((bs.length : Int) ≤ (j : Int) + 1) = false := by simp; omega
  have hen : decide ((j : Int) + 1 < (bs.length : Int)) = true := by simp; omega
  have hem : (j : Int) + 1 < (bs.length : Int) := by omega
  have c2 : w3.cell? ⟨b, o + (j + 1), none⟩ = some (.int .u8 ((byteAt bs (j + 1) : Nat) : Int)) := HCells.out (j + 1) h1

  rw [h0'] at c1
  rw [h2] at c2
  clear h0' h2
  go_wp2
  all_goals go_light
  all_goals rw [HV.out]
  refine bodyPost_ret (ret_one Tryz.results110 rfl rfl rfl ((HZ.out.set8 _ _ _ _ _ _ _ _).far2 (by omega) _ _) ((HW.out.far8 (by omega) _ _ _ _ _ _ _ _).set2)) rfl ⟨by unfold oneVal; dsimp only; rw [lexVal_no]; rfl, (below_set2 (below_set8 HB.out (Nat.le_refl _) _ _ _ _ _ _ _ _) (by omega) _ _)⟩

set_option maxHeartbeats 4000000 in
theorem rrep_d3a (b o cap : Nat) (bs : List Nat) (i : Nat) (w : World) (hA : BytesAt w w.heap.size (some ⟨b, o, none⟩) bs) (h0 : i < bs.length) (hcap : bs.length ≤ cap) {lo j : Nat} (ht : takeS bs (i + 1) = some (lo, j)) (hj : j < bs.length) (h0' : byteAt bs j = 44) (h1 : j + 1 < bs.length) (h2 : byteAt bs (j + 1) ≠ 125) (ht2 : takeS bs (j + 1) = none) : Calls Tryz.prog 110 #[.slice (some ⟨b, o, none⟩) bs.length cap, .int .i64 (i : Int)] w fun e w' => e = .returned (oneVal (repS bs i)) ∧ Below w.heap.size w w' := by
  have h44 : hasAt bs (j : Int) 44 = true := by rw [hasAt_in 44 hj, h0']; rfl

  have h125 : hasAt bs ((j : Int) + 1) 125 = (byteAt bs (j + 1) == 125) := hasAt_in (i := j + 1) 125 h1

  have HV := Lib.hid (show repS bs i = .error (16, (i : Int)) by unfold repS; simp [ht, h44, h125, h2, ht2])
  have HV2 := Lib.hid (show takeVal bs (j + 1) = .tuple #[.int .i64 0, .int .i64 0, .int .i64 (takeErr bs (j + 1))] by unfold takeVal; rw [ht2])
  have hk := takeErr_pos bs (j + 1)
  generalize takeErr bs (j + 1) = k at *
  have hk0 : (k != 0) = true := by rw [bne_iff_ne]; omega
  have b125 : ((byteAt bs (j + 1) : Int) != 125) = true := by simp; omega
  clear hk ht2 h44 h125
  have HV1 := Lib.hid (show takeVal bs (i + 1) = .tuple #[.int .i64 (lo : Int), .int .i64 (j : Int), .int .i64 0] by unfold takeVal; rw [ht])
  have hjj := takeS_some ht
  clear ht
  have hl := hA.2.1
  have hB := (((Below.refl w.heap.size w).alloc (Nat.le_refl _) (.cells #[.int .i64 0, .int .i64 0, .int .u64 0, .int .u64 0, .int .u64 0, .int .u64 0, .int .i64 0, .int .i64 0] 93)).alloc (by simp) (.cells #[.int .i64 0, .int .i64 0] 26)).alloc (by simp; omega) (.cells #[.int .i64 16, .int .i64 (i : Int)] 26)
  have hA3 := (hA.below hB).more hB.size
  have HT := Lib.hid (fun (j : Nat) (hj : j ≤ bs.length) => rtake_at b o cap bs j (((w.alloc (.cells #[.int .i64 0, .int .i64 0, .int .u64 0, .int .u64 0, .int .u64 0, .int .u64 0, .int .i64 0, .int .i64 0] 93)).alloc (.cells #[.int .i64 0, .int .i64 0] 26)).alloc (.cells #[.int .i64 16, .int .i64 (i : Int)] 26)) hA3 hcap hj)
  have hZ : Blk (((w.alloc (.cells #[.int .i64 0, .int .i64 0, .int .u64 0, .int .u64 0, .int .u64 0, .int .u64 0, .int .i64 0, .int .i64 0] 93)).alloc (.cells #[.int .i64 0, .int .i64 0] 26)).alloc (.cells #[.int .i64 16, .int .i64 (i : Int)] 26)) w.heap.size 93 #[.int .i64 0, .int .i64 0, .int .u64 0, .int .u64 0, .int .u64 0, .int .u64 0, .int .i64 0, .int .i64 0] := ((Blk.new _ _ _).alloc _).alloc _
  have hW : Blk (((w.alloc (.cells #[.int .i64 0, .int .i64 0, .int .u64 0, .int .u64 0, .int .u64 0, .int .u64 0, .int .i64 0, .int .i64 0] 93)).alloc (.cells #[.int .i64 0, .int .i64 0] 26)).alloc (.cells #[.int .i64 16, .int .i64 (i : Int)] 26)) (w.heap.size + 1) 26 #[.int .i64 0, .int .i64 0] := (Blk.new_at (by simp)).alloc _
  have hO : Blk (((w.alloc (.cells #[.int .i64 0, .int .i64 0, .int .u64 0, .int .u64 0, .int .u64 0, .int .u64 0, .int .i64 0, .int .i64 0] 93)).alloc (.cells #[.int .i64 0, .int .i64 0] 26)).alloc (.cells #[.int .i64 16, .int .i64 (i : Int)] 26)) (w.heap.size + 1 + 1) 26 #[.int .i64 16, .int .i64 (i : Int)] := Blk.new_at (by simp)
  have HCells := Lib.hid (bytesAt_cells hA3)
  obtain ⟨o0, o1, o2, o3⟩ := hO.c2
  obtain ⟨q0, q1, q2, q3⟩ := hW.c2
  have z0 := hZ.cell 0
  have y0 := hZ.frozen 0
  have z1 := hZ.cell 1
  have y1 := hZ.frozen 1
  have z2 := hZ.cell 2
  have y2 := hZ.frozen 2
  have z3 := hZ.cell 3
  have y3 := hZ.frozen 3
  have z4 := hZ.cell 4
  have y4 := hZ.frozen 4
  have z5 := hZ.cell 5
  have y5 := hZ.frozen 5
  have z6 := hZ.cell 6
  have y6 := hZ.frozen 6
  have z7 := hZ.cell 7
  have y7 := hZ.frozen 7
  have HZ := Lib.hid hZ
  have HW := Lib.hid hW
  have HB := Lib.hid hB
  clear hZ hW hO hB hA3 hA
  go_enter Tryz.func110, Tryz.ntmps110
  go_wp2_with fail
  refine (HT.out (i + 1) (by omega)).mono ?_
  generalize (((w.alloc (.cells #[.int .i64 0, .int .i64 0, .int .u64 0, .int .u64 0, .int .u64 0, .int .u64 0, .int .i64 0, .int .i64 0] 93)).alloc (.cells #[.int .i64 0, .int .i64 0] 26)).alloc (.cells #[.int .i64 16, .int .i64 (i : Int)] 26)) = w3 at *
  rintro e w4 ⟨rfl, rfl⟩
  rw [HV1.out]


  have hdj : ¬ (bs.length : Int) ≤ (j : Int) := by omega
  have hdk : decide ((bs.length : Int) ≤ (j : Int)) = false := by simp; omega
  have hdm : (j : Int) < (bs.length : Int) := by omega
  have c1 := HCells.out j hj

  have hel : ¬ (bs.length : Int) ≤ (j : Int) + 1 := by omega
  have hek : decide ((bs.length : Int) ≤ (j : Int) + 1) = false := by simp; omega
  have hen : decide ((j : Int) + 1 < (bs.length : Int)) = true := by simp; omega
  have hem : (j : Int) + 1 < (bs.length : Int) := by omega
  have c2 : w3.cell? ⟨b, o + (j + 1), none⟩ = some (.int .u8 ((byteAt bs (j + 1) : Nat) : Int)) := HCells.out (j + 1) h1

  rw [h0'] at c1
  clear h0' h2
  generalize byteAt bs (j + 1) = c at *
  have HT2 := Lib.hid (HT.out (j + 1) (by omega))
  go_wp2_with fail
  refine HT2.out.mono ?_
  rintro e w4 ⟨rfl, rfl⟩
  rw [HV2.out]
  go_wp2
  go_region
  all_goals go_wp2
  all_goals go_light
  all_goals rw [HV.out]
  refine bodyPost_ret (ret_one Tryz.results110 rfl rfl rfl ((HZ.out.set8 _ _ _ _ _ _ _ _).far2 (by omega) _ _).drew ((HW.out.far8 (by omega) _ _ _ _ _ _ _ _).set2).drew) rfl ⟨rfl, (below_set2 (below_set8 HB.out (Nat.le_refl _) _ _ _ _ _ _ _ _) (by omega) _ _).drew⟩


set_option maxHeartbeats 4000000 in
theorem rrep_d3b (b o cap : Nat) (bs : List Nat) (i : Nat) (w : World) (hA : BytesAt w w.heap.size (some ⟨b, o, none⟩) bs) (h0 : i < bs.length) (hcap : bs.length ≤ cap) {lo j : Nat} (ht : takeS bs (i + 1) = some (lo, j)) (hj : j < bs.length) (h0' : byteAt bs j = 44) (h1 : j + 1 < bs.length) (h2 : byteAt bs (j + 1) ≠ 125) {m k : Nat} (ht2 : takeS bs (j + 1) = some (m, k)) (hk : bs.length ≤ k) : Calls Tryz.prog 110 #[.slice (some ⟨b, o, none⟩) bs.length cap, .int .i64 (i : Int)] w fun e w' => e = .returned (oneVal (repS bs i)) ∧ Below w.heap.size w w' := by
  have h44 : hasAt bs (j : Int) 44 = true := by rw [hasAt_in 44 hj, h0']; rfl

  have h125 : hasAt bs ((j : Int) + 1) 125 = (byteAt bs (j + 1) == 125) := hasAt_in (i := j + 1) 125 h1

  have HV := Lib.hid (show repS bs i = .error (16, (i : Int)) by unfold repS; simp [ht, h44, h125, h2, ht2, hasAt_out (bs := bs) (i := (k : Int)) 125 (by omega)])
  have HV2 := Lib.hid (show takeVal bs (j + 1) = .tuple #[.int .i64 (m : Int), .int .i64 (k : Int), .int .i64 0] by unfold takeVal; rw [ht2])
  have hkk := takeS_some ht2
  have b125 : ((byteAt bs (j + 1) : Int) != 125) = true := by simp; omega
  clear ht2 h44 h125
  have HV1 := Lib.hid (show takeVal bs (i + 1) = .tuple #[.int .i64 (lo : Int), .int .i64 (j : Int), .int .i64 0] by unfold takeVal; rw [ht])
  have hjj := takeS_some ht
  clear ht
  have hl := hA.2.1
  have hB := (((Below.refl w.heap.size w).alloc (Nat.le_refl _) (.cells #[.int .i64 0, .int .i64 0, .int .u64 0, .int .u64 0, .int .u64 0, .int .u64 0, .int .i64 0, .int .i64 0] 93)).alloc (by simp) (.cells #[.int .i64 0, .int .i64 0] 26)).alloc (by simp; omega) (.cells #[.int .i64 16, .int .i64 (i : Int)] 26)
  have hA3 := (hA.below hB).more hB.size
  have HT := Lib.hid (fun (j : Nat) (hj : j ≤ bs.length) => rtake_at b o cap bs j (((w.alloc (.cells #[.int .i64 0, .int .i64 0, .int .u64 0, .int .u64 0, .int .u64 0, .int .u64 0, .int .i64 0, .int .i64 0] 93)).alloc (.cells #[.int .i64 0, .int .i64 0] 26)).alloc (.cells #[.int .i64 16, .int .i64 (i : Int)] 26)) hA3 hcap hj)
  have hZ : Blk (((w.alloc (.cells #[.int .i64 0, .int .i64 0, .int .u64 0, .int .u64 0, .int .u64 0, .int .u64 0, .int .i64 0, .int .i64 0] 93)).alloc (.cells #[.int .i64 0, .int .i64 0] 26)).alloc (.cells #[.int .i64 16, .int .i64 (i : Int)] 26)) w.heap.size 93 #[.int .i64 0, .int .i64 0, .int .u64 0, .int .u64 0, .int .u64 0, .int .u64 0, .int .i64 0, .int .i64 0] := ((Blk.new _ _ _).alloc _).alloc _
  have hW : Blk (((w.alloc (.cells #[.int .i64 0, .int .i64 0, .int .u64 0, .int .u64 0, .int .u64 0, .int .u64 0, .int .i64 0, .int .i64 0] 93)).alloc (.cells #[.int .i64 0, .int .i64 0] 26)).alloc (.cells #[.int .i64 16, .int .i64 (i : Int)] 26)) (w.heap.size + 1) 26 #[.int .i64 0, .int .i64 0] := (Blk.new_at (by simp)).alloc _
  have hO : Blk (((w.alloc (.cells #[.int .i64 0, .int .i64 0, .int .u64 0, .int .u64 0, .int .u64 0, .int .u64 0, .int .i64 0, .int .i64 0] 93)).alloc (.cells #[.int .i64 0, .int .i64 0] 26)).alloc (.cells #[.int .i64 16, .int .i64 (i : Int)] 26)) (w.heap.size + 1 + 1) 26 #[.int .i64 16, .int .i64 (i : Int)] := Blk.new_at (by simp)
  have HCells := Lib.hid (bytesAt_cells hA3)
  obtain ⟨o0, o1, o2, o3⟩ := hO.c2
  obtain ⟨q0, q1, q2, q3⟩ := hW.c2
  have z0 := hZ.cell 0
  have y0 := hZ.frozen 0
  have z1 := hZ.cell 1
  have y1 := hZ.frozen 1
  have z2 := hZ.cell 2
  have y2 := hZ.frozen 2
  have z3 := hZ.cell 3
  have y3 := hZ.frozen 3
  have z4 := hZ.cell 4
  have y4 := hZ.frozen 4
  have z5 := hZ.cell 5
  have y5 := hZ.frozen 5
  have z6 := hZ.cell 6
  have y6 := hZ.frozen 6
  have z7 := hZ.cell 7
  have y7 := hZ.frozen 7
  have HZ := Lib.hid hZ
  have HW := Lib.hid hW
  have HB := Lib.hid hB
  clear hZ hW hO hB hA3 hA
  go_enter Tryz.func110, Tryz.ntmps110
  go_wp2_with fail
  refine (HT.out (i + 1) (by omega)).mono ?_
  generalize (((w.alloc (.cells #[.int .i64 0, .int .i64 0, .int .u64 0, .int .u64 0, .int .u64 0, .int .u64 0, .int .i64 0, .int .i64 0] 93)).alloc (.cells #[.int .i64 0, .int .i64 0] 26)).alloc (.cells #[.int .i64 16, .int .i64 (i : Int)] 26)) = w3 at *
  rintro e w4 ⟨rfl, rfl⟩
  rw [HV1.out]


  have hdj : ¬ (bs.length : Int) ≤ (j : Int) := by omega
  have hdk : decide ((bs.length : Int) ≤ (j : Int)) = false := by simp; omega
  have hdm : (j : Int) < (bs.length : Int) := by omega
  have c1 := HCells.out j hj

  have hel : ¬ (bs.length : Int) ≤ (j : Int) + 1 := by omega
  have hek : decide ((bs.length : Int) ≤ (j : Int) + 1) = false := by simp; omega
  have hen : decide ((j : Int) + 1 < (bs.length : Int)) = true := by simp; omega
  have hem : (j : Int) + 1 < (bs.length : Int) := by omega
  have c2 : w3.cell? ⟨b, o + (j + 1), none⟩ = some (.int .u8 ((byteAt bs (j + 1) : Nat) : Int)) := HCells.out (j + 1) h1

  rw [h0'] at c1
  clear h0' h2
  generalize byteAt bs (j + 1) = c at *
  have HT2 := Lib.hid (HT.out (j + 1) (by omega))
  go_wp2_with fail
  refine HT2.out.mono ?_
  rintro e w4 ⟨rfl, rfl⟩
  rw [HV2.out]

  have hgl : (bs.length : Int) ≤ (k : Int) := by omega
  have hgk : decide ((bs.length : Int) ≤ (k : Int)) = true := by simp; omega
  go_wp2
  go_region
  all_goals go_wp2
  all_goals go_light
  all_goals rw [HV.out]
  refine bodyPost_ret (ret_one Tryz.results110 rfl rfl rfl ((HZ.out.set8 _ _ _ _ _ _ _ _).far2 (by omega) _ _).drew ((HW.out.far8 (by omega) _ _ _ _ _ _ _ _).set2).drew) rfl ⟨rfl, (below_set2 (below_set8 HB.out (Nat.le_refl _) _ _ _ _ _ _ _ _) (by omega) _ _).drew⟩


set_option maxHeartbeats 4000000 in
theorem rrep_d3c (b o cap : Nat) (bs : List Nat) (i : Nat) (w : World) (hA : BytesAt w w.heap.size (some ⟨b, o, none⟩) bs) (h0 : i < bs.length) (hcap : bs.length ≤ cap) {lo j : Nat} (ht : takeS bs (i + 1) = some (lo, j)) (hj : j < bs.length) (h0' : byteAt bs j = 44) (h1 : j + 1 < bs.length) (h2 : byteAt bs (j + 1) ≠ 125) {m k : Nat} (ht2 : takeS bs (j + 1) = some (m, k)) (hk : k < bs.length) (h3 : byteAt bs k ≠ 125) : Calls Tryz.prog 110 #[.slice (some ⟨b, o, none⟩) bs.length cap, .int .i64 (i : Int)] w fun e w' => e = .returned (oneVal (repS bs i)) ∧ Below w.heap.size w w' := by
  have h44 : hasAt bs (j : Int) 44 = true := by rw [hasAt_in 44 hj, h0']; rfl

  have h125 : hasAt bs ((j : Int) + 1) 125 = (byteAt bs (j + 1) == 125) := hasAt_in (i := j + 1) 125 h1

  have HV := Lib.hid (show repS bs i = .error (16, (i : Int)) by unfold repS; simp [ht, h44, h125, h2, ht2, hasAt_in 125 hk, h3])
  have d125 : ((byteAt bs k : Int) != 125) = true := by simp; omega
  have HV2 := Lib.hid (show takeVal bs (j + 1) = .tuple #[.int .i64 (m : Int), .int .i64 (k : Int), .int .i64 0] by unfold takeVal; rw [ht2])
  have hkk := takeS_some ht2
  have b125 : ((byteAt bs (j + 1) : Int) != 125) = true := by simp; omega
  clear ht2 h44 h125
  have HV1 := Lib.hid (show takeVal bs (i + 1) = .tuple #[.int .i64 (lo : Int), .int .i64 (j : Int), .int .i64 0] by unfold takeVal; rw [ht])
  have hjj := takeS_some ht
  clear ht
  have hl := hA.2.1
  have hB := (((Below.refl w.heap.size w).alloc (Nat.le_refl _) (.cells #[.int .i64 0, .int .i64 0, .int .u64 0, .int .u64 0, .int .u64 0, .int .u64 0, .int .i64 0, .int .i64 0] 93)).alloc (by simp) (.cells #[.int .i64 0, .int .i64 0] 26)).alloc (by simp; omega) (.cells #[.int .i64 16, .int .i64 (i : Int)] 26)
  have hA3 := (hA.below hB).more hB.size
  have HT := Lib.hid (fun (j : Nat) (hj : j ≤ bs.length) => rtake_at b o cap bs j (((w.alloc (.cells #[.int .i64 0, .int .i64 0, .int .u64 0, .int .u64 0, .int .u64 0, .int .u64 0, .int .i64 0, .int .i64 0] 93)).alloc (.cells #[.int .i64 0, .int .i64 0] 26)).alloc (.cells #[.int .i64 16, .int .i64 (i : Int)] 26)) hA3 hcap hj)
  have hZ : Blk (((w.alloc (.cells #[.int .i64 0, .int .i64 0, .int .u64 0, .int .u64 0, .int .u64 0, .int .u64 0, .int .i64 0, .int .i64 0] 93)).alloc (.cells #[.int .i64 0, .int .i64 0] 26)).alloc (.cells #[.int .i64 16, .int .i64 (i : Int)] 26)) w.heap.size 93 #[.int .i64 0, .int .i64 0, .int .u64 0, .int .u64 0, .int .u64 0, .int .u64 0, .int .i64 0, .int .i64 0] := ((Blk.new _ _ _).alloc _).alloc _
  have hW : Blk (((w.alloc (.cells #[.int .i64 0, .int .i64 0, .int .u64 0, .int .u64 0, .int .u64 0, .int .u64 0, .int .i64 0, .int .i64 0] 93)).alloc (.cells #[.int .i64 0, .int .i64 0] 26)).alloc (.cells #[.int .i64 16, .int .i64 (i : Int)] 26)) (w.heap.size + 1) 26 #[.int .i64 0, .int .i64 0] := (Blk.new_at (by simp)).alloc _
  have hO : Blk (((w.alloc (.cells #[.int .i64 0, .int .i64 0, .int .u64 0, .int .u64 0, .int .u64 0, .int .u64 0, .int .i64 0, .int .i64 0] 93)).alloc (.cells #[.int .i64 0, .int .i64 0] 26)).alloc (.cells #[.int .i64 16, .int .i64 (i : Int)] 26)) (w.heap.size + 1 + 1) 26 #[.int .i64 16, .int .i64 (i : Int)] := Blk.new_at (by simp)
  have HCells := Lib.hid (bytesAt_cells hA3)
  obtain ⟨o0, o1, o2, o3⟩ := hO.c2
  obtain ⟨q0, q1, q2, q3⟩ := hW.c2
  have z0 := hZ.cell 0
  have y0 := hZ.frozen 0
  have z1 := hZ.cell 1
  have y1 := hZ.frozen 1
  have z2 := hZ.cell 2
  have y2 := hZ.frozen 2
  have z3 := hZ.cell 3
  have y3 := hZ.frozen 3
  have z4 := hZ.cell 4
  have y4 := hZ.frozen 4
  have z5 := hZ.cell 5
  have y5 := hZ.frozen 5
  have z6 := hZ.cell 6
  have y6 := hZ.frozen 6
  have z7 := hZ.cell 7
  have y7 := hZ.frozen 7
  have HZ := Lib.hid hZ
  have HW := Lib.hid hW
  have HB := Lib.hid hB
  clear hZ hW hO hB hA3 hA
  go_enter Tryz.func110, Tryz.ntmps110
  go_wp2_with fail
  refine (HT.out (i + 1) (by omega)).mono ?_
  generalize (((w.alloc (.cells #[.int .i64 0, .int .i64 0, .int .u64 0, .int .u64 0, .int .u64 0, .int .u64 0, .int .i64 0, .int .i64 0] 93)).alloc (.cells #[.int .i64 0, .int .i64 0] 26)).alloc (.cells #[.int .i64 16, .int .i64 (i : Int)] 26)) = w3 at *
  rintro e w4 ⟨rfl, rfl⟩
  rw [HV1.out]


  have hdj : ¬ (bs.length : Int) ≤ (j : Int) := by omega
  have hdk : decide ((bs.length : Int) ≤ (j : Int)) = false := by simp; omega
  have hdm : (j : Int) < (bs.length : Int) := by omega
  have c1 := HCells.out j hj

  have hel : ¬ (bs.length : Int) ≤ (j : Int) + 1 := by omega
  have hek : decide ((bs.length : Int) ≤ (j : Int) + 1) = false := by simp; omega
  have hen : decide ((j : Int) + 1 < (bs.length : Int)) = true := by simp; omega
  have hem : (j : Int) + 1 < (bs.length : Int) := by omega
  have c2 : w3.cell? ⟨b, o + (j + 1), none⟩ = some (.int .u8 ((byteAt bs (j + 1) : Nat) : Int)) := HCells.out (j + 1) h1

  rw [h0'] at c1
  clear h0' h2
  generalize byteAt bs (j + 1) = c at *
  have HT2 := Lib.hid (HT.out (j + 1) (by omega))
  go_wp2_with fail
  refine HT2.out.mono ?_
  rintro e w4 ⟨rfl, rfl⟩
  rw [HV2.out]

  have hgl : ¬ (bs.length : Int) ≤ (k : Int) := by omega
  have hgk : decide ((bs.length : Int) ≤ (k : Int)) = false := by simp; omega
  have hgm : (k : Int) < (bs.length : Int) := by omega
  have c3 := HCells.out k hk

  clear h3
  generalize byteAt bs k = d at *
  go_wp2
  go_region
  all_goals go_wp2
  all_goals go_light
  all_goals rw [HV.out]
  refine bodyPost_ret (ret_one Tryz.results110 rfl rfl rfl ((HZ.out.set8 _ _ _ _ _ _ _ _).far2 (by omega) _ _).drew ((HW.out.far8 (by omega) _ _ _ _ _ _ _ _).set2).drew) rfl ⟨rfl, (below_set2 (below_set8 HB.out (Nat.le_refl _) _ _ _ _ _ _ _ _) (by omega) _ _).drew⟩


set_option maxHeartbeats 4000000 in
theorem rrep_d3d (b o cap : Nat) (bs : List Nat) (i : Nat) (w : World) (hA : BytesAt w w.heap.size (some ⟨b, o, none⟩) bs) (h0 : i < bs.length) (hcap : bs.length ≤ cap) {lo j : Nat} (ht : takeS bs (i + 1) = some (lo, j)) (hj : j < bs.length) (h0' : byteAt bs j = 44) (h1 : j + 1 < bs.length) (h2 : byteAt bs (j + 1) ≠ 125) {m k : Nat} (ht2 : takeS bs (j + 1) = some (m, k)) (hk : k < bs.length) (h3 : byteAt bs k = 125) (h4 : m < lo) : Calls Tryz.prog 110 #[.slice (some ⟨b, o, none⟩) bs.length cap, .int .i64 (i : Int)] w fun e w' => e = .returned (oneVal (repS bs i)) ∧ Below w.heap.size w w' := by
  have h44 : hasAt bs (j : Int) 44 = true := by rw [hasAt_in 44 hj, h0']; rfl

  have h125 : hasAt bs ((j : Int) + 1) 125 = (byteAt bs (j + 1) == 125) := hasAt_in (i := j + 1) 125 h1

  have HV := Lib.hid (show repS bs i = .error (15, (i : Int)) by unfold repS; simp [ht, h44, h125, h2, ht2, hasAt_in 125 hk, h3, h4])
  have HV2 := Lib.hid (show takeVal bs (j + 1) = .tuple #[.int .i64 (m : Int), .int .i64 (k : Int), .int .i64 0] by unfold takeVal; rw [ht2])
  have hkk := takeS_some ht2
  have b125 : ((byteAt bs (j + 1) : Int) != 125) = true := by simp; omega
  clear ht2 h44 h125
  have HV1 := Lib.hid (show takeVal bs (i + 1) = .tuple #[.int .i64 (lo : Int), .int .i64 (j : Int), .int .i64 0] by unfold takeVal; rw [ht])
  have hjj := takeS_some ht
  clear ht
  have hl := hA.2.1
  have hB := (((Below.refl w.heap.size w).alloc (Nat.le_refl _) (.cells #[.int .i64 0, .int .i64 0, .int .u64 0, .int .u64 0, .int .u64 0, .int .u64 0, .int .i64 0, .int .i64 0] 93)).alloc (by simp) (.cells #[.int .i64 0, .int .i64 0] 26)).alloc (by simp; omega) (.cells #[.int .i64 16, .int .i64 (i : Int)] 26)
  have hA3 := (hA.below hB).more hB.size
  have HT := Lib.hid (fun (j : Nat) (hj : j ≤ bs.length) => rtake_at b o cap bs j (((w.alloc (.cells #[.int .i64 0, .int .i64 0, .int .u64 0, .int .u64 0, .int .u64 0, .int .u64 0, .int .i64 0, .int .i64 0] 93)).alloc (.cells #[.int .i64 0, .int .i64 0] 26)).alloc (.cells #[.int .i64 16, .int .i64 (i : Int)] 26)) hA3 hcap hj)
  have hZ : Blk (((w.alloc (.cells #[.int .i64 0, .int .i64 0, .int .u64 0, .int .u64 0, .int .u64 0, .int .u64 0, .int .i64 0, .int .i64 0] 93)).alloc (.cells #[.int .i64 0, .int .i64 0] 26)).alloc (.cells #[.int .i64 16, .int .i64 (i : Int)] 26)) w.heap.size 93 #[.int .i64 0, .int .i64 0, .int .u64 0, .int .u64 0, .int .u64 0, .int .u64 0, .int .i64 0, .int .i64 0] := ((Blk.new _ _ _).alloc _).alloc _
  have hW : Blk (((w.alloc (.cells #[.int .i64 0, .int .i64 0, .int .u64 0, .int .u64 0, .int .u64 0, .int .u64 0, .int .i64 0, .int .i64 0] 93)).alloc (.cells #[.int .i64 0, .int .i64 0] 26)).alloc (.cells #[.int .i64 16, .int .i64 (i : Int)] 26)) (w.heap.size + 1) 26 #[.int .i64 0, .int .i64 0] := (Blk.new_at (by simp)).alloc _
  have hO : Blk (((w.alloc (.cells #[.int .i64 0, .int .i64 0, .int .u64 0, .int .u64 0, .int .u64 0, .int .u64 0, .int .i64 0, .int .i64 0] 93)).alloc (.cells #[.int .i64 0, .int .i64 0] 26)).alloc (.cells #[.int .i64 16, .int .i64 (i : Int)] 26)) (w.heap.size + 1 + 1) 26 #[.int .i64 16, .int .i64 (i : Int)] := Blk.new_at (by simp)
  have HCells := Lib.hid (bytesAt_cells hA3)
  obtain ⟨o0, o1, o2, o3⟩ := hO.c2
  obtain ⟨q0, q1, q2, q3⟩ := hW.c2
  have z0 := hZ.cell 0
  have y0 := hZ.frozen 0
  have z1 := hZ.cell 1
  have y1 := hZ.frozen 1
  have z2 := hZ.cell 2
  have y2 := hZ.frozen 2
  have z3 := hZ.cell 3
  have y3 := hZ.frozen 3
  have z4 := hZ.cell 4
  have y4 := hZ.frozen 4
  have z5 := hZ.cell 5
  have y5 := hZ.frozen 5
  have z6 := hZ.cell 6
  have y6 := hZ.frozen 6
  have z7 := hZ.cell 7
  have y7 := hZ.frozen 7
  have HZ := Lib.hid hZ
  have HW := Lib.hid hW
  have HB := Lib.hid hB
  clear hZ hW hO hB hA3 hA
  go_enter Tryz.func110, Tryz.ntmps110
  go_wp2_with fail
  refine (HT.out (i + 1) (by omega)).mono ?_
  generalize (((w.alloc (.cells #[.int .i64 0, .int .i64 0, .int .u64 0, .int .u64 0, .int .u64 0, .int .u64 0, .int .i64 0, .int .i64 0] 93)).alloc (.cells #[.int .i64 0, .int .i64 0] 26)).alloc (.cells #[.int .i64 16, .int .i64 (i : Int)] 26)) = w3 at *
  rintro e w4 ⟨rfl, rfl⟩
  rw [HV1.out]


  have hdj : ¬ (bs.length : Int) ≤ (j : Int) := by omega
  have hdk : decide ((bs.length : Int) ≤ (j : Int)) = false := by simp; omega
  have hdm : (j : Int) < (bs.length : Int) := by omega
  have c1 := HCells.out j hj

  have hel : ¬ (bs.length : Int) ≤ (j : Int) + 1 := by omega
  have hek : decide ((bs.length : Int) ≤ (j : Int) + 1) = false := by simp; omega
  have hen : decide ((j : Int) + 1 < (bs.length : Int)) = true := by simp; omega
  have hem : (j : Int) + 1 < (bs.length : Int) := by omega
  have c2 : w3.cell? ⟨b, o + (j + 1), none⟩ = some (.int .u8 ((byteAt bs (j + 1) : Nat) : Int)) := HCells.out (j + 1) h1

  rw [h0'] at c1
  clear h0' h2
  generalize byteAt bs (j + 1) = c at *
  have HT2 := Lib.hid (HT.out (j + 1) (by omega))
  go_wp2_with fail
  refine HT2.out.mono ?_
  rintro e w4 ⟨rfl, rfl⟩
  rw [HV2.out]

  have hgl : ¬ (bs.length : Int) ≤ (k : Int) := by omega
  have hgk : decide ((bs.length : Int) ≤ (k : Int)) = false := by simp; omega
  have hgm : (k : Int) < (bs.length : Int) := by omega
  have c3 := HCells.out k hk

  rw [h3] at c3
  have hlo0 : decide ((0 : Int) ≤ (m : Int)) = true := by simp
  have hll : decide ((m : Int) < (lo : Int)) = true := by simp; omega
  clear h3
  go_wp2
  all_goals go_light
  all_goals rw [HV.out]
  refine bodyPost_ret (ret_one Tryz.results110 rfl rfl rfl ((HZ.out.set8 _ _ _ _ _ _ _ _).far2 (by omega) _ _) ((HW.out.far8 (by omega) _ _ _ _ _ _ _ _).set2)) rfl ⟨rfl, (below_set2 (below_set8 HB.out (Nat.le_refl _) _ _ _ _ _ _ _ _) (by omega) _ _)⟩

set_option maxHeartbeats 4000000 in
theorem rrep_d3e (b o cap : Nat) (bs : List Nat) (i : Nat) (w : World) (hA : BytesAt w w.heap.size (some ⟨b, o, none⟩) bs) (h0 : i < bs.length) (hcap : bs.length ≤ cap) {lo j : Nat} (ht : takeS bs (i + 1) = some (lo, j)) (hj : j < bs.length) (h0' : byteAt bs j = 44) (h1 : j + 1 < bs.length) (h2 : byteAt bs (j + 1) ≠ 125) {m k : Nat} (ht2 : takeS bs (j + 1) = some (m, k)) (hk : k < bs.length) (h3 : byteAt bs k = 125) (h4 : ¬ m < lo) : Calls Tryz.prog 110 #[.slice (some ⟨b, o, none⟩) bs.length cap, .int .i64 (i : Int)] w fun e w' => e = .returned (oneVal (repS bs i)) ∧ Below w.heap.size w w' := by
  have h44 : hasAt bs (j : Int) 44 = true := by rw [hasAt_in 44 hj, h0']; rfl

  have h125 : hasAt bs ((j : Int) + 1) 125 = (byteAt bs (j + 1) == 125) := hasAt_in (i := j + 1) 125 h1

  have HV := Lib.hid (show repS bs i = .ok (⟨8, (i : Int), noSet, (lo : Int), (m : Int)⟩, k + 1) by unfold repS; simp [ht, h44, h125, h2, ht2, hasAt_in 125 hk, h3, h4])
  have HV2 := Lib.hid (show takeVal bs (j + 1) = .tuple #[.int .i64 (m : Int), .int .i64 (k : Int), .int .i64 0] by unfold takeVal; rw [ht2])
  have hkk := takeS_some ht2
  have b125 : ((byteAt bs (j + 1) : Int) != 125) = true := by simp; omega
  clear ht2 h44 h125
  have HV1 := Lib.hid (show takeVal bs (i + 1) = .tuple #[.int .i64 (lo : Int), .int .i64 (j : Int), .int .i64 0] by unfold takeVal; rw [ht])
  have hjj := takeS_some ht
  clear ht
  have hl := hA.2.1
  have hB := (((Below.refl w.heap.size w).alloc (Nat.le_refl _) (.cells #[.int .i64 0, .int .i64 0, .int .u64 0, .int .u64 0, .int .u64 0, .int .u64 0, .int .i64 0, .int .i64 0] 93)).alloc (by simp) (.cells #[.int .i64 0, .int .i64 0] 26)).alloc (by simp; omega) (.cells #[.int .i64 16, .int .i64 (i : Int)] 26)
  have hA3 := (hA.below hB).more hB.size
  have HT := Lib.hid (fun (j : Nat) (hj : j ≤ bs.length) => rtake_at b o cap bs j (((w.alloc (.cells #[.int .i64 0, .int .i64 0, .int .u64 0, .int .u64 0, .int .u64 0, .int .u64 0, .int .i64 0, .int .i64 0] 93)).alloc (.cells #[.int .i64 0, .int .i64 0] 26)).alloc (.cells #[.int .i64 16, .int .i64 (i : Int)] 26)) hA3 hcap hj)
  have hZ : Blk (((w.alloc (.cells #[.int .i64 0, .int .i64 0, .int .u64 0, .int .u64 0, .int .u64 0, .int .u64 0, .int .i64 0, .int .i64 0] 93)).alloc (.cells #[.int .i64 0, .int .i64 0] 26)).alloc (.cells #[.int .i64 16, .int .i64 (i : Int)] 26)) w.heap.size 93 #[.int .i64 0, .int .i64 0, .int .u64 0, .int .u64 0, .int .u64 0, .int .u64 0, .int .i64 0, .int .i64 0] := ((Blk.new _ _ _).alloc _).alloc _
  have hW : Blk (((w.alloc (.cells #[.int .i64 0, .int .i64 0, .int .u64 0, .int .u64 0, .int .u64 0, .int .u64 0, .int .i64 0, .int .i64 0] 93)).alloc (.cells #[.int .i64 0, .int .i64 0] 26)).alloc (.cells #[.int .i64 16, .int .i64 (i : Int)] 26)) (w.heap.size + 1) 26 #[.int .i64 0, .int .i64 0] := (Blk.new_at (by simp)).alloc _
  have hO : Blk (((w.alloc (.cells #[.int .i64 0, .int .i64 0, .int .u64 0, .int .u64 0, .int .u64 0, .int .u64 0, .int .i64 0, .int .i64 0] 93)).alloc (.cells #[.int .i64 0, .int .i64 0] 26)).alloc (.cells #[.int .i64 16, .int .i64 (i : Int)] 26)) (w.heap.size + 1 + 1) 26 #[.int .i64 16, .int .i64 (i : Int)] := Blk.new_at (by simp)
  have HCells := Lib.hid (bytesAt_cells hA3)
  obtain ⟨o0, o1, o2, o3⟩ := hO.c2
  obtain ⟨q0, q1, q2, q3⟩ := hW.c2
  have z0 := hZ.cell 0
  have y0 := hZ.frozen 0
  have z1 := hZ.cell 1
  have y1 := hZ.frozen 1
  have z2 := hZ.cell 2
  have y2 := hZ.frozen 2
  have z3 := hZ.cell 3
  have y3 := hZ.frozen 3
  have z4 := hZ.cell 4
  have y4 := hZ.frozen 4
  have z5 := hZ.cell 5
  have y5 := hZ.frozen 5
  have z6 := hZ.cell 6
  have y6 := hZ.frozen 6
  have z7 := hZ.cell 7
  have y7 := hZ.frozen 7
  have HZ := Lib.hid hZ
  have HW := Lib.hid hW
  have HB := Lib.hid hB
  clear hZ hW hO hB hA3 hA
  go_enter Tryz.func110, Tryz.ntmps110
  go_wp2_with fail
  refine (HT.out (i + 1) (by omega)).mono ?_
  generalize (((w.alloc (.cells #[.int .i64 0, .int .i64 0, .int .u64 0, .int .u64 0, .int .u64 0, .int .u64 0, .int .i64 0, .int .i64 0] 93)).alloc (.cells #[.int .i64 0, .int .i64 0] 26)).alloc (.cells #[.int .i64 16, .int .i64 (i : Int)] 26)) = w3 at *
  rintro e w4 ⟨rfl, rfl⟩
  rw [HV1.out]


  have hdj : ¬ (bs.length : Int) ≤ (j : Int) := by omega
  have hdk : decide ((bs.length : Int) ≤ (j : Int)) = false := by simp; omega
  have hdm : (j : Int) < (bs.length : Int) := by omega
  have c1 := HCells.out j hj

  have hel : ¬ (bs.length : Int) ≤ (j : Int) + 1 := by omega
  have hek : decide ((bs.length : Int) ≤ (j : Int) + 1) = false := by simp; omega
  have hen : decide ((j : Int) + 1 < (bs.length : Int)) = true := by simp; omega
  have hem : (j : Int) + 1 < (bs.length : Int) := by omega
  have c2 : w3.cell? ⟨b, o + (j + 1), none⟩ = some (.int .u8 ((byteAt bs (j + 1) : Nat) : Int)) := HCells.out (j + 1) h1

  rw [h0'] at c1
  clear h0' h2
  generalize byteAt bs (j + 1) = c at *
  have HT2 := Lib.hid (HT.out (j + 1) (by omega))
  go_wp2_with fail
  refine HT2.out.mono ?_
  rintro e w4 ⟨rfl, rfl⟩
  rw [HV2.out]

  have hgl : ¬ (bs.length : Int) ≤ (k : Int) := by omega
  have hgk : decide ((bs.length : Int) ≤ (k : Int)) = false := by simp; omega
  have hgm : (k : Int) < (bs.length : Int) := by omega
  have c3 := HCells.out k hk

  rw [h3] at c3
  have hlo0 : decide ((0 : Int) ≤ (m : Int)) = true := by simp
  have hll : decide ((m : Int) < (lo : Int)) = false := by simp; omega
  clear h3
  go_wp2
  all_goals go_light
  all_goals rw [HV.out]
  refine bodyPost_ret (ret_one Tryz.results110 rfl rfl rfl ((HZ.out.set8 _ _ _ _ _ _ _ _).far2 (by omega) _ _) ((HW.out.far8 (by omega) _ _ _ _ _ _ _ _).set2)) rfl ⟨by unfold oneVal; dsimp only; rw [lexVal_no]; rfl, (below_set2 (below_set8 HB.out (Nat.le_refl _) _ _ _ _ _ _ _ _) (by omega) _ _)⟩

theorem rrep_go (b o cap : Nat) (bs : List Nat) (i : Nat) (w : World) (hA : BytesAt w w.heap.size (some ⟨b, o, none⟩) bs) (h0 : i < bs.length) (hcap : bs.length ≤ cap) : Calls Tryz.prog 110 #[.slice (some ⟨b, o, none⟩) bs.length cap, .int .i64 (i : Int)] w fun e w' => e = .returned (oneVal (repS bs i)) ∧ Below w.heap.size w w' := by
  cases ht : takeS bs (i + 1) with
  | none => exact rrep_no b o cap bs i w hA h0 hcap ht
  | some x =>
    obtain ⟨lo, j⟩ := x
    rcases Nat.lt_or_ge j bs.length with hj | hj
    · by_cases h1 : byteAt bs j = 44
      · rcases Nat.lt_or_ge (j + 1) bs.length with h2 | h2
        · by_cases h3 : byteAt bs (j + 1) = 125
          · exact rrep_d2 b o cap bs i w hA h0 hcap ht hj h1 h2 h3
          · cases ht2 : takeS bs (j + 1) with
            | none => exact rrep_d3a b o cap bs i w hA h0 hcap ht hj h1 h2 h3 ht2
            | some y =>
              obtain ⟨m, k⟩ := y
              rcases Nat.lt_or_ge k bs.length with hk | hk
              · by_cases h4 : byteAt bs k = 125
                · by_cases h5 : m < lo
                  · exact rrep_d3d b o cap bs i w hA h0 hcap ht hj h1 h2 h3 ht2 hk h4 h5
                  · exact rrep_d3e b o cap bs i w hA h0 hcap ht hj h1 h2 h3 ht2 hk h4 h5
                · exact rrep_d3c b o cap bs i w hA h0 hcap ht hj h1 h2 h3 ht2 hk h4
              · exact rrep_d3b b o cap bs i w hA h0 hcap ht hj h1 h2 h3 ht2 hk
        · exact rrep_d1 b o cap bs i w hA h0 hcap ht hj h1 h2
      · by_cases h2 : byteAt bs j = 125
        · exact rrep_c2 b o cap bs i w hA h0 hcap ht hj h2
        · exact rrep_c1 b o cap bs i w hA h0 hcap ht hj h1 h2
    · exact rrep_end b o cap bs i w hA h0 hcap ht hj

end Go.Proofs.YtajohcknenngnaaGreat
