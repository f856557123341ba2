/-
  The contracts of the closures of the splitter's rep. The contract of the parser's group. The contract of the parser's atom. Rows of nodes that the parser's functions make while the parser goes on.
-/
import Derived.WalkSmall
import Derived.Test.YtajohcknenngnaaGreatQZ01
import Derived.Test.YtajohcknenngnaaGreatQEscCl
import Derived.Test.YtajohcknenngnaaGreatQZ02
namespace Go.Proofs.YtajohcknenngnaaGreat
open Go.RowKit
set_option linter.unusedSimpArgs false
set_option linter.unusedVariables false
set_option maxRecDepth 100000

/-- What rep has about it: the box of the splitter, the box of the place. -/
structure Ctx (N S T I b o cap : Nat) (bs : List Nat) (i : Nat) (v : Value) (L : List Lex) (W0 : World) (j : Nat) (W : World) : Prop where
  hT : W.cell? ⟨T, 0, none⟩ = some (.pointer (some ⟨S, 0, none⟩))
  hI : Blk W I 3 #[.int .i64 (j : Int)]
  hS : Spl W S b o bs.length cap i v 0 0
  hrow : W.ownsRow N 93 8 v L.length (lexCells L)
  hA : BytesAt W N (some ⟨b, o, none⟩) bs
  hB : Below N W0 W
  hNS : N ≤ S
  hNI : N ≤ I
  hTI : T ≠ I
  hSI : S ≠ I
  hcap : bs.length ≤ cap

section
variable {N S T I b o cap : Nat} {bs : List Nat} {i : Nat} {v : Value} {L : List Lex} {W0 : World} {j : Nat} {W W' : World}
theorem Ctx.drewN (h : Ctx N S T I b o cap bs i v L W0 j W) (n : Nat) : Ctx N S T I b o cap bs i v L W0 j (W.drewN n) :=
  ⟨h.hT, h.hI, h.hS, h.hrow, h.hA, bel_drewN h.hB n, h.hNS, h.hNI, h.hTI, h.hSI, h.hcap⟩
theorem Ctx.below (h : Ctx N S T I b o cap bs i v L W0 j W) (hb : Below W.heap.size W W') : Ctx N S T I b o cap bs i v L W0 j W' :=
  ⟨(hb.cell (p := ⟨T, 0, none⟩) (World.block_lt_of_cell? W _ h.hT)).trans h.hT, h.hI.below hb h.hI.lt, Blk.below h.hS hb (Blk.lt h.hS), own_below h.hrow hb, h.hA.below (hb.mono (Nat.le_of_lt (Nat.lt_of_le_of_lt h.hNS (Blk.lt h.hS)))),
    h.hB.trans (hb.mono (Nat.le_of_lt (Nat.lt_of_le_of_lt h.hNS (Blk.lt h.hS)))), h.hNS, h.hNI, h.hTI, h.hSI, h.hcap⟩
theorem Ctx.set_ (h : Ctx N S T I b o cap bs i v L W0 j W) (m : Nat) : Ctx N S T I b o cap bs i v L W0 m (W.setCell ⟨I, 0, none⟩ (.int .i64 (m : Int))) :=
  ⟨(World.cell?_setCell_other W _ _ _ (fun e => h.hTI (by simpa using (congrArg Addr.block e).symm))).trans h.hT, h.hI.set_ 0 _, Blk.far h.hS (p := ⟨I, 0, none⟩) h.hSI _, own_set h.hrow (blk_not_row h.hI (by decide) h.hrow),
    h.hA.below ((Below.refl N W).setCell (p := ⟨I, 0, none⟩) h.hNI _), h.hB.setCell (p := ⟨I, 0, none⟩) h.hNI _, h.hNS, h.hNI, h.hTI, h.hSI, h.hcap⟩
theorem Ctx.facts (h : Ctx N S T I b o cap bs i v L W0 j W) : W.cell? ⟨T, 0, none⟩ = some (.pointer (some ⟨S, 0, none⟩)) ∧ W.cell? ⟨I, 0, none⟩ = some (.int .i64 (j : Int)) ∧ W.cell? ⟨S, 0, none⟩ = some (.slice (some ⟨b, o, none⟩) bs.length cap) ∧ W.frozen? ⟨I, 0, none⟩ = false ∧
    T < W.heap.size ∧ I < W.heap.size ∧ S < W.heap.size ∧ N ≤ W.heap.size :=
  ⟨h.hT, h.hI.cell 0, (Spl.cells h.hS).1, h.hI.frozen 0, World.block_lt_of_cell? W _ h.hT, h.hI.lt, Blk.lt h.hS, Nat.le_of_lt (Nat.lt_of_le_of_lt h.hNS (Blk.lt h.hS))⟩
end

/-- A call that gives v, and keeps what rep has about it, the place at j. -/
def Kept (N S T I b o cap : Nat) (bs : List Nat) (i : Nat) (u : Value) (L : List Lex) (W0 : World) (j : Nat) (v : Value) (e : Ending) (W' : World) : Prop := e = .returned v ∧ Ctx N S T I b o cap bs i u L W0 j W'

set_option maxHeartbeats 2000000 in
theorem here_yes {N S T I b o cap : Nat} {bs : List Nat} {i : Nat} {v : Value} {L : List Lex} {W0 : World} {j : Nat} {W : World} (h : Ctx N S T I b o cap bs i v L W0 j W) (c : Nat) (hj : j < bs.length) :
    Calls Tryz.prog 118 #[.int .u8 (c : Int), .pointer (some ⟨I, 0, none⟩), .pointer (some ⟨T, 0, none⟩)] W (Kept N S T I b o cap bs i v L W0 j (.bool (hasAt bs j c))) := by
  obtain ⟨c0, c1, c2, f1, l0, l1, l2, _⟩ := h.facts
  have hcell := bytesAt_cells h.hA j hj
  have hl := h.hA.2.1
  have HK := Lib.hid h
  have Hh := Lib.hid (hasAt_in c hj)
  clear h
  generalize byteAt bs j = d at *
  have hd : decide (j < bs.length) = true := by simp; omega
  have hd2 : (j : Int) < (bs.length : Int) := by omega
  go_enter Tryz.func118, Tryz.ntmps118
  go_wp2
  go_quiet (fail)
  go_wp2
  go_light
  go_ret
  refine ⟨ret_b ?_, HK.out.drewN _⟩
  rw [Hh.out]
  rw [Bool.eq_iff_iff]
  simp
  omega
set_option maxHeartbeats 2000000 in
theorem here_end {N S T I b o cap : Nat} {bs : List Nat} {i : Nat} {v : Value} {L : List Lex} {W0 : World} {j : Nat} {W : World} (h : Ctx N S T I b o cap bs i v L W0 j W) (c : Nat) (hj : bs.length ≤ j) :
    Calls Tryz.prog 118 #[.int .u8 (c : Int), .pointer (some ⟨I, 0, none⟩), .pointer (some ⟨T, 0, none⟩)] W (Kept N S T I b o cap bs i v L W0 j (.bool (hasAt bs j c))) := by
  obtain ⟨c0, c1, c2, f1, l0, l1, l2, _⟩ := h.facts
  have hl := h.hA.2.1
  have HK := Lib.hid h
  have Hh := Lib.hid (hasAt_out (bs := bs) (i := (j : Int)) c (by omega))
  clear h
  have hd : decide (j < bs.length) = false := by simp; omega
  go_enter Tryz.func118, Tryz.ntmps118
  go_wp2
  go_quiet (fail)
  go_wp2
  go_light
  go_ret
  exact ⟨ret_b (by rw [Hh.out]), HK.out.drewN _⟩
theorem sphere_go {N S T I b o cap : Nat} {bs : List Nat} {i : Nat} {v : Value} {L : List Lex} {W0 : World} {j : Nat} {W : World} (h : Ctx N S T I b o cap bs i v L W0 j W) (c : Nat) :
    Calls Tryz.prog 118 #[.int .u8 (c : Int), .pointer (some ⟨I, 0, none⟩), .pointer (some ⟨T, 0, none⟩)] W (Kept N S T I b o cap bs i v L W0 j (.bool (hasAt bs j c))) := by
  rcases Nat.lt_or_ge j bs.length with hj | hj
  · exact here_yes h c hj
  · exact here_end h c hj

set_option maxHeartbeats 2000000 in
theorem num_yes {N S T I b o cap : Nat} {bs : List Nat} {i : Nat} {v : Value} {L : List Lex} {W0 : World} {j : Nat} {W : World} (h : Ctx N S T I b o cap bs i v L W0 j W) (hj : j ≤ bs.length) {n m : Nat} (ht : takeS bs j = some (n, m)) :
    Calls Tryz.prog 116 #[.pointer (some ⟨T, 0, none⟩), .pointer (some ⟨I, 0, none⟩)] W (Kept N S T I b o cap bs i v L W0 m (.tuple #[.int .i64 (n : Int), .bool true])) := by
  have Hv := Lib.hid (show takeVal bs j = .tuple #[.int .i64 (n : Int), .int .i64 (m : Int), .int .i64 0] by unfold takeVal; rw [ht])
  clear ht
  obtain ⟨c0, c1, c2, f1, l0, l1, l2, l3⟩ := h.facts
  have hl := h.hA.2.1
  have HK := Lib.hid h
  have HE := Lib.hid (fun w hA => take_at b o cap bs j w hA h.hcap hj)
  clear h
  go_enter Tryz.func116, Tryz.ntmps116
  go_wp2_with fail
  go_region_held3 (fun w' => (∀ b o, b < W.heap.size → w'.cell? ⟨b, o, none⟩ = W.cell? ⟨b, o, none⟩) ∧ Since W.heap.size W w') (first | (with_reducible exact HK2.out) | (with_reducible exact since_start (Nat.le_refl _)))
    (first | (go_at_call 117; refine (HE.out _ (bytes_since (by assumption) HK.out.hA l3)).mono ?_; rintro e w' ⟨rfl, hb'⟩; rw [Hv.out]; have hK := since_step (by assumption) hb'; have HK2 := Lib.hid hK; clear hK))
  have HC := Lib.hid (HK.out.below HK2.out.2.1)
  obtain ⟨k0, k1, k2, g1, _, _, _, _⟩ := HC.out.facts

  go_wp2
  go_light
  go_ret2
  exact ⟨rfl, HC.out.set_ m⟩
set_option maxHeartbeats 2000000 in
theorem num_no {N S T I b o cap : Nat} {bs : List Nat} {i : Nat} {v : Value} {L : List Lex} {W0 : World} {j : Nat} {W : World} (h : Ctx N S T I b o cap bs i v L W0 j W) (hj : j ≤ bs.length) (ht : takeS bs j = none) :
    Calls Tryz.prog 116 #[.pointer (some ⟨T, 0, none⟩), .pointer (some ⟨I, 0, none⟩)] W (Kept N S T I b o cap bs i v L W0 j (.tuple #[.int .i64 0, .bool false])) := by
  have Hv := Lib.hid (show takeVal bs j = .tuple #[.int .i64 0, .int .i64 0, .int .i64 (takeErr bs j)] by unfold takeVal; rw [ht])
  have hk := takeErr_pos bs j
  generalize takeErr bs j = k at *
  have hk0 : (k != 0) = true := by rw [bne_iff_ne]; omega
  clear ht hk
  obtain ⟨c0, c1, c2, f1, l0, l1, l2, l3⟩ := h.facts
  have hl := h.hA.2.1
  have HK := Lib.hid h
  have HE := Lib.hid (fun w hA => take_at b o cap bs j w hA h.hcap hj)
  clear h
  go_enter Tryz.func116, Tryz.ntmps116
  go_wp2_with fail
  go_region_held3 (fun w' => (∀ b o, b < W.heap.size → w'.cell? ⟨b, o, none⟩ = W.cell? ⟨b, o, none⟩) ∧ Since W.heap.size W w') (first | (with_reducible exact HK2.out) | (with_reducible exact since_start (Nat.le_refl _)))
    (first | (go_at_call 117; refine (HE.out _ (bytes_since (by assumption) HK.out.hA l3)).mono ?_; rintro e w' ⟨rfl, hb'⟩; rw [Hv.out]; have hK := since_step (by assumption) hb'; have HK2 := Lib.hid hK; clear hK))
  have HC := Lib.hid (HK.out.below HK2.out.2.1)
  obtain ⟨k0, k1, k2, g1, _, _, _, _⟩ := HC.out.facts

  go_wp2
  go_light
  go_ret2
  exact ⟨rfl, HC.out⟩

end Go.Proofs.YtajohcknenngnaaGreat
namespace Go.Proofs.YtajohcknenngnaaGreat
open Go.RowKit
set_option linter.unusedSimpArgs false
set_option linter.unusedVariables false
set_option maxRecDepth 100000

/-- What stands between brackets. -/
def GivesG (p m : Nat) (v : Value) (r : Except Wrong (Option Nd × List Lex)) (W : World) (e : Ending) (W' : World) : Prop :=
  match r with
  | .ok (some x, R) => ∃ v' B cap, e = .returned (ndV x B cap) ∧ PAt W' p v' R m ∧ Still p W v W' v' ∧ x.kids.len ≤ cap ∧ TreesAt W' (New W.heap.size p v') x.kids B
  | .ok (none, R) => False
  | .error x => Panics p x W e W'
theorem info_int : (Tryz.prog.info? 3).map (fun i => (i.zero, i.size, i.bytes)) = some (some (.int .i64 0), 1, 8) := by kernel_rfl

/-- The block R holds no node yet. -/
def Zr (p R : Nat) (v : Value) (w : World) : Prop := Blk w R 39 #[.int .i64 0, .int .u64 0, .int .u64 0, .int .u64 0, .int .u64 0, .slice none 0 0, .int .i64 0, .int .i64 0] ∧ Off p v R
theorem Zr.still {p R : Nat} {v v' : Value} {w w' : World} (h : Zr p R v w) (hs : Still p w v w' v') : Zr p R v' w' := ⟨hs.blk h.2 h.1, hs.off h.2 h.1.lt⟩
theorem Zr.below {p R : Nat} {v : Value} {w w' : World} (h : Zr p R v w) (hb : Below w.heap.size w w') : Zr p R v w' := ⟨h.1.below hb h.1.lt, h.2⟩
theorem zr_new {p : Nat} {v : Value} {W : World} (hp : p < W.heap.size) (hv : ∀ g, v.ownBlock = some g → g < W.heap.size) : Zr p W.heap.size v (W.alloc (.cells #[.int .i64 0, .int .u64 0, .int .u64 0, .int .u64 0, .int .u64 0, .slice none 0 0, .int .i64 0, .int .i64 0] 39)) :=
  ⟨Blk.new W _ _, by omega, fun e => by have := hv _ e.symm; omega⟩
theorem PAt.drew {w : World} {p : Nat} {v : Value} {L : List Lex} {m : Nat} (h : PAt w p v L m) : PAt w.drew p v L m := by
  obtain ⟨A, cap, xs, hb, hc, hl, hr⟩ := h
  exact ⟨A, cap, xs, hb.drew, hc, hl.below (Below.refl _ _).drew, hr⟩
theorem Still.drew {p : Nat} {w w' : World} {v v' : Value} (h : Still p w v w' v') : Still p w v w'.drew v' := ⟨h.1.drew, h.2.1, h.2.2⟩
theorem TreesAt.drew {w : World} {P : Nat → Prop} {F : Trees} {A : Option Addr} (h : TreesAt w P F A) : TreesAt w.drew P F A := TreesAt.keep (w := w) (w' := w.drew) (fun _ _ _ _ => rfl) (fun _ h _ => h) h
/-- The result is laid. -/
theorem filled {W w : World} {p R m : Nat} {v0 v : Value} {L : List Lex} {x : Nd} {B : Option Addr} {cap : Nat} (hP : PAt w p v L m) (hS : Still p W v0 w v) (hZ : Zr p R v w) (hR : W.heap.size = R) (hp : p < W.heap.size) (ht : TreesAt w (New (R + 1) p v) x.kids B) {w' : World}
    (hw' : w' = ((((((((w.setCell ⟨R, 0, none⟩ (.int .i64 x.kind)).setCell ⟨R, 1, none⟩ (.int .u64 ((word x.set.testBit 0 : Nat) : Int))).setCell ⟨R, 2, none⟩ (.int .u64 ((word x.set.testBit 1 : Nat) : Int))).setCell ⟨R, 3, none⟩ (.int .u64 ((word x.set.testBit 2 : Nat) : Int))).setCell ⟨R, 4, none⟩ (.int .u64 ((word x.set.testBit 3 : Nat) : Int))).setCell ⟨R, 5, none⟩ (.slice B x.kids.len cap)).setCell ⟨R, 6, none⟩ (.int .i64 x.lo)).setCell ⟨R, 7, none⟩ (.int .i64 x.hi))) :
    Blk w' R 39 (ndA x B cap) ∧ PAt w' p v L m ∧ Still p W v0 w' v ∧ TreesAt w' (New W.heap.size p v) x.kids B := by
  have hg : w.grownBy w' (some R) := by rw [hw']; exact only_put8 _ _ _ _ _ _ _ _ _ _
  have hx : Blk w' R 39 (ndA x B cap) := by rw [hw']; exact hZ.1.put8 _ _ _ _ _ _ _ _
  refine ⟨hx, hP.only hg (by omega) (fun g e h => hZ.2.2 (by rw [e, h])), hS.only hg hp (by omega), ht.keep (fun b o hb hl => World.cell?_of_block (hg.block b hl (fun e => ?_))) (fun b hb _ => ⟨by have := hb.1; omega, hb.2⟩)⟩
  have := hb.1
  have := Option.some.inj e
  omega
set_option maxHeartbeats 4000000 in
theorem group_deep (n p : Nat) (op : List Int) (y : Lex) (L : List Lex) (W : World) (v : Value) (hP : PAt W p v (y :: L) op.length) (hlen : (y :: L).length ≤ 100000) (hk : y.kind = 2) (h64 : op.length = 64) :
    Calls Tryz.prog 145 #[.pointer (some ⟨p, 0, none⟩)] W (GivesG p op.length v (atomG (n + 1) op (y :: L)) W) := by
  rw [atomG_deep hk h64]
  have hd : ((op.length : Int) == 64) = true := by simp; omega
  obtain ⟨i0, hi, hz0, hz1, hz2⟩ := info_parts info_int
  have hp := hP.lt
  have hP1 := hP.below ((Below.refl W.heap.size W).alloc (Nat.le_refl _) (.cells #[.int .i64 0, .int .u64 0, .int .u64 0, .int .u64 0, .int .u64 0, .slice none 0 0, .int .i64 0, .int .i64 0] 39))
  have HN := Lib.hid (next_any hP1 (by simp at hlen; omega))
  have hv : ∀ g, v.ownBlock = some g → g < W.heap.size := by
    obtain ⟨_, _, _, _, _, _, hr⟩ := hP
    exact fun g e => (hr.lt g e).2
  obtain ⟨Av, cv, rfl⟩ : ∃ A c, v = .slice A op.length c := by
    obtain ⟨_, _, _, _, _, _, hr⟩ := hP
    exact own_slice hr
  clear hP hP1
  go_enter Tryz.func145, Tryz.ntmps145
  go_wp2_with fail
  refine HN.out.mono ?_
  rintro e w2 ⟨rfl, hP2, hS2⟩
  have HZ := Lib.hid ((zr_new hp hv).still hS2)
  have hS2 := (Still.of_below (v := .slice Av op.length cv) ((Below.refl W.heap.size W).alloc (Nat.le_refl _) (.cells #[.int .i64 0, .int .u64 0, .int .u64 0, .int .u64 0, .int .u64 0, .slice none 0 0, .int .i64 0, .int .i64 0] 39)) (Nat.le_of_lt hp)).trans hS2
  clear HN
  unfold lexV
  have hsz2 := hS2.1.size
  have HS2 := Lib.hid hS2
  obtain ⟨A2, cap2, xs2, hb2, hc2, hl2, hr2⟩ := hP2
  have q0 : w2.cell? ⟨p, 0, none⟩ = some (.slice A2 L.length cap2) := hb2.cell 0
  have q1 : w2.cell? ⟨p, 1, none⟩ = some (.slice Av op.length cv) := hb2.cell 1
  have fq1 := hb2.frozen 1
  have HB2 := Lib.hid hb2
  have HL2 := Lib.hid hl2
  have HR2 := Lib.hid hr2
  clear hS2 hb2 hl2 hr2

  clear h64
  go_wp2_with fail
  refine (fail_any _ _ _).mono ?_
  rintro e w3 ⟨rfl, rfl⟩
  go_wp2
  exact ⟨rfl, rfl, HS2.out.1⟩

theorem pushed {w2 w3 : World} {p m g cap : Nat} {A2 : Option Addr} {cap2 : Nat} {v : Value} {L : List Lex} {xs xs3 : List Value} {o : Obj} (hb : Blk w2 p 111 #[.slice A2 L.length cap2, v]) (hc2 : L.length ≤ cap2) (hl : LexsAt w2 p A2 L) (hr : w2.ownsRow (p + 1) 3 1 v m xs)
    (hown : w3.ownsRow (p + 1) 3 1 (.slice (some ⟨g, 0, none⟩) (m + 1) cap) (m + 1) xs3) (hgrow : (w2.alloc o).grownBy w3 v.ownBlock) (hat : v.ownBlock = some g ∨ g = w2.heap.size + 1) :
    PAt (w3.setCell ⟨p, 1, none⟩ (.slice (some ⟨g, 0, none⟩) (m + 1) cap)) p (.slice (some ⟨g, 0, none⟩) (m + 1) cap) L (m + 1) ∧ Still p w2 v (w3.setCell ⟨p, 1, none⟩ (.slice (some ⟨g, 0, none⟩) (m + 1) cap)) (.slice (some ⟨g, 0, none⟩) (m + 1) cap) := by
  have hp := hb.lt
  have hne := blk_not_row hb (by decide) hr
  have hg : p + 1 ≤ g := (hown.lt g rfl).1
  have hB : Below p w2 (w3.setCell ⟨p, 1, none⟩ (.slice (some ⟨g, 0, none⟩) (m + 1) cap)) :=
    (((Below.refl p w2).alloc (Nat.le_of_lt hp) o).grown hgrow (by simp; omega) (fun k hk => by have := (hr.lt k hk).1; omega)).setCell (p := ⟨p, 1, none⟩) (Nat.le_refl _) _
  have hb3 : Blk w3 p 111 #[.slice A2 L.length cap2, v] := (hb.alloc o).grown hgrow hne
  refine ⟨⟨A2, cap2, xs3, hb3.set_ 1 _, hc2, hl.below hB, own_set hown (by simp [Value.ownBlock]; omega)⟩, hB, fun b hl ho => ?_, fun k hk => ?_⟩
  · rw [Below.heap_setCell w3 ⟨p, 1, none⟩ _ b ho.1, hgrow.block b (by simp; omega) ho.2]
    exact Below.heap_alloc w2 o b hl
  · obtain rfl : g = k := by simpa [Value.ownBlock] using hk
    rcases hat with h | h
    · exact .inl h
    · exact .inr (by omega)
theorem popped {w : World} {p m g cap : Nat} {L : List Lex} (h : PAt w p (.slice (some ⟨g, 0, none⟩) (m + 1) cap) L (m + 1)) :
    PAt (w.setCell ⟨p, 1, none⟩ (.slice (some ⟨g, 0, none⟩) m cap)) p (.slice (some ⟨g, 0, none⟩) m cap) L m ∧ Still p w (.slice (some ⟨g, 0, none⟩) (m + 1) cap) (w.setCell ⟨p, 1, none⟩ (.slice (some ⟨g, 0, none⟩) m cap)) (.slice (some ⟨g, 0, none⟩) m cap) := by
  obtain ⟨A, c, xs, hb, hc, hl, hr⟩ := h
  have hne := blk_not_row hb (by decide) hr
  have hx := hr.1
  have hxs : xs = xs.take m ++ xs.drop m := (List.take_append_drop m xs).symm
  rw [hxs] at hr
  have hr2 := ownsRow_pop (n := m) (xs := xs.take m) (last := xs.drop m) (by simp; omega) hr
  refine ⟨⟨A, c, _, hb.set_ 1 _, hc, hl.below ((Below.refl p w).setCell (p := ⟨p, 1, none⟩) (Nat.le_refl _) _), own_set hr2 hne⟩, (Below.refl p w).setCell (p := ⟨p, 1, none⟩) (Nat.le_refl _) _, fun b _ ho => Below.heap_setCell w ⟨p, 1, none⟩ _ b ho.1, fun k hk => .inl hk⟩

set_option maxHeartbeats 4000000 in
theorem group_go (n p : Nat) (op : List Int) (y : Lex) (L : List Lex) (W : World) (v : Value) (hA : AltC n) (hP : PAt W p v (y :: L) op.length) (hlen : (y :: L).length ≤ 100000) (hk : y.kind = 2) (h64 : op.length < 64) (hn : 3 * (y :: L).length < n + 1) :
    Calls Tryz.prog 145 #[.pointer (some ⟨p, 0, none⟩)] W (GivesG p op.length v (atomG (n + 1) op (y :: L)) W) := by
  have hd : ((op.length : Int) == 64) = false := by simp; omega
  obtain ⟨i0, hi, hz0, hz1, hz2⟩ := info_parts info_int
  have hp := hP.lt
  have hP1 := hP.below ((Below.refl W.heap.size W).alloc (Nat.le_refl _) (.cells #[.int .i64 0, .int .u64 0, .int .u64 0, .int .u64 0, .int .u64 0, .slice none 0 0, .int .i64 0, .int .i64 0] 39))
  have HN := Lib.hid (next_any hP1 (by simp at hlen; omega))
  have hv : ∀ g, v.ownBlock = some g → g < W.heap.size := by
    obtain ⟨_, _, _, _, _, _, hr⟩ := hP
    exact fun g e => (hr.lt g e).2
  obtain ⟨Av, cv, rfl⟩ : ∃ A c, v = .slice A op.length c := by
    obtain ⟨_, _, _, _, _, _, hr⟩ := hP
    exact own_slice hr
  clear hP hP1
  go_enter Tryz.func145, Tryz.ntmps145
  go_wp2_with fail
  refine HN.out.mono ?_
  rintro e w2 ⟨rfl, hP2, hS2⟩
  have HZ := Lib.hid ((zr_new hp hv).still hS2)
  have hS2 := (Still.of_below (v := .slice Av op.length cv) ((Below.refl W.heap.size W).alloc (Nat.le_refl _) (.cells #[.int .i64 0, .int .u64 0, .int .u64 0, .int .u64 0, .int .u64 0, .slice none 0 0, .int .i64 0, .int .i64 0] 39)) (Nat.le_of_lt hp)).trans hS2
  clear HN
  unfold lexV
  have hsz2 := hS2.1.size
  have HS2 := Lib.hid hS2
  obtain ⟨A2, cap2, xs2, hb2, hc2, hl2, hr2⟩ := hP2
  have q0 : w2.cell? ⟨p, 0, none⟩ = some (.slice A2 L.length cap2) := hb2.cell 0
  have q1 : w2.cell? ⟨p, 1, none⟩ = some (.slice Av op.length cv) := hb2.cell 1
  have fq1 := hb2.frozen 1
  have HB2 := Lib.hid hb2
  have HL2 := Lib.hid hl2
  have HR2 := Lib.hid hr2
  clear hS2 hb2 hl2 hr2

  have hv2 : ∀ g, (Value.slice Av op.length cv).ownBlock = some g → g < w2.heap.size := fun g e => (HR2.out.lt g e).2
  have Hne := Lib.hid (blk_not_row HB2.out (by decide) HR2.out)
  have HH := Lib.hid hv2
  have hp2 : p + 1 ≤ w2.heap.size := HB2.out.lt
  have HV := Lib.hid hv
  clear hv hv2
  have h63 : op.length + 1 ≤ maxLen := Nat.le_trans (by omega) (show 200000 ≤ maxLen by decide)
  have hby : (op.length + 1) * 8 ≤ 140737488355328 := by omega
  go_wp2_with (at_builtin; refine wpList_append_lies _ rfl _ _ 43 rfl (p + 1) 3 i0 _ 1 8 Tryz.underlying43 hi hz0 hz1 hz2 rfl (by decide) _ _ _ rfl (HR2.out.alloc _) ⟨w2.heap.size, 0, none⟩ 1 1 [.int .i64 y.place] rfl rfl (cell_one_new _ _ _) (by simp [Value.oneCell']) (by decide) h63 hby (by simp; omega) (w2.heap.size + 1) (by simp) ?_; intro g3 cap3 w3 hown3 hgrow3 hat3 hg3; have hB3 : Blk w3 p 111 #[.slice A2 L.length cap2, .slice Av op.length cv] := (HB2.out.alloc (.cells #[.int .i64 y.place] 3)).grown hgrow3 Hne.out; have fq := hB3.frozen 1; have q3 : w3.cell? ⟨p, 1, none⟩ = some (.slice Av op.length cv) := hB3.cell 1; have HPS := Lib.hid (pushed HB2.out hc2 HL2.out HR2.out hown3 hgrow3 hat3); clear hB3 hown3 hgrow3 hat3)
  obtain ⟨hP4, hS4⟩ := HPS.out
  have HP4 := Lib.hid hP4
  have HS4 := Lib.hid (HS2.out.trans hS4)
  have HT4 := Lib.hid hS4
  clear hP4 hS4 HPS
  have HZ := Lib.hid (HZ.out.still HT4.out)
  clear q0 q1 fq1 q3 fq HB2 HL2 HR2 Hne HH HV hd
  cases hx : altG n (y.place :: op) [] L with
  | error x =>
    have HX := Lib.hid hx
    have HE := Lib.hid (atomG_in hk (by omega) hx)
    clear hx
    refine (hA p (y.place :: op) L _ _ HP4.out (by simp at hlen; omega) (by simp; omega) (by simp at hn; omega)).mono ?_
    rw [HX.out]
    rintro e w5 ⟨rfl, hb5⟩
    rw [HE.out]
    go_wp2
    exact ⟨rfl, rfl, HS4.out.1.trans hb5⟩
  | ok r =>
    obtain ⟨x, R⟩ := r
    have HX := Lib.hid hx
    clear hx
    refine (hA p (y.place :: op) L _ _ HP4.out (by simp at hlen; omega) (by simp; omega) (by simp at hn; omega)).mono ?_
    rw [HX.out]
    rintro e w5 ⟨v5, B, cap, rfl, hP5, hS5, hc5, ht5⟩
    have hRl := ((readG_suf n).1 _ _ _ _ _ HX.out).length_le
    have HZ5 := Lib.hid (HZ.out.still hS5)
    have HS5 := Lib.hid (HS4.out.trans hS5)
    have HP5 := Lib.hid hP5
    have HT5 := Lib.hid ht5
    have hs5 := hS5.1.size
    have hlt4 : W.heap.size + 1 ≤ (w3.setCell ⟨p, 1, none⟩ (.slice (some ⟨g3, 0, none⟩) (op.length + 1) cap3)).heap.size := HZ.out.1.lt
    have HT5 := Lib.hid (ht5.weak (Q := New (W.heap.size + 1) p v5) (fun b hb _ => ⟨Nat.le_trans hlt4 hb.1, hb.2⟩))
    have hb6 : Below w5.heap.size w5 (w5.alloc (.cells (ndA x B cap) 39)) := (Below.refl _ _).alloc (Nat.le_refl _) _
    have HP6 := Lib.hid (hP5.below hb6)
    have HZ6 := Lib.hid (HZ5.out.below hb6)
    have HT6 := Lib.hid (HT5.out.below hb6)
    have HS6 := Lib.hid (HS5.out.more hb6 (Nat.le_of_lt hp))
    have HX6 := Lib.hid (Blk.new w5 39 (ndA x B cap))
    obtain ⟨g5, cap5, hv5, hg5a, hg5b, hc5b⟩ : ∃ g c, v5 = .slice (some ⟨g, 0, none⟩) (op.length + 1) c ∧ p + 1 ≤ g ∧ g < w5.heap.size ∧ op.length + 1 ≤ c := by
      obtain ⟨_, _, _, _, _, _, hr⟩ := hP5
      rcases hr.2 with ⟨_, h0⟩ | ⟨g, c, cur, hv, hb, hh, hc, _⟩
      · simp at h0
      · exact ⟨g, c, hv, hb, (Array.getElem?_eq_some_iff.1 hh).1, hc⟩
    subst hv5
    have hoX : Off p (.slice (some ⟨g5, 0, none⟩) (op.length + 1) cap5) w5.heap.size := ⟨by omega, by simp [Value.ownBlock]; omega⟩
    have hsz6 : w5.heap.size < (w5.alloc (.cells (ndA x B cap) 39)).heap.size := by simp
    have hlv : op.length + 1 = (y.place :: op).length := rfl
    have hW5 := HS5.out.1.size
    clear hP5 hS5 ht5 HS4 HZ HT5 HP5 HZ5 HS5 hb6 hlt4 hi hz0 hz1 hz2 h63 hby hs5
    unfold ndV
    dsimp only
    cases R with
    | nil =>
      have HE := Lib.hid (atomG_open hk (by omega) HX.out (fun c R' e => by cases e))
      go_wp2_with fail
      refine (peek_nil HP6.out).mono ?_
      rintro e w7 ⟨rfl, hw7⟩
      subst hw7
      dsimp only
      go_wp2_with fail
      refine (fail_any _ _ _).mono ?_
      rintro e w8 ⟨rfl, hw8⟩
      subst hw8
      dsimp only
      go_wp2
      rw [HE.out]
      exact ⟨rfl, rfl, HS6.out.1⟩
    | cons c R =>
      simp only [List.length_cons] at hlen hRl
      by_cases h3 : c.kind = 3
      · have HE := Lib.hid (atomG_close hk (by omega) HX.out h3)
        have HK := Lib.hid hk
        have hj : IntKind.i64.wrap ((op.length : Int) + 1 - 1) = (op.length : Int) := by rw [Int.add_sub_cancel]; exact IntWalk.i64_in _ (by omega)
        have hj0 : (0 : Int) ≤ (op.length : Int) := by omega
        have hj1 : (op.length : Int) ≤ (cap5 : Int) := by omega
        have HN := Lib.hid (next_any HP6.out (by omega))
        clear hk hlv
        go_wp2_with fail
        refine (peek_go HP6.out (by omega)).mono ?_
        rintro e w7 ⟨rfl, hw7⟩
        subst hw7
        rw [h3]
        dsimp only
        go_wp2_with fail
        refine HN.out.mono ?_
        rintro e w8 ⟨rfl, hP8, hS8⟩
        have hX8 := hS8.blk hoX HX6.out
        have hZ8 := HZ6.out.still hS8
        have hT8 := Lib.hid (hS8.trees HT6.out)
        have hS8' := HS6.out.trans hS8
        have hs8 := hS8.1.size
        have hpop := popped hP8
        obtain ⟨_, _, _, hb8, _⟩ := hP8
        have q8 : w8.cell? ⟨p, 1, none⟩ = some (.slice (some ⟨g5, 0, none⟩) (op.length + 1) cap5) := hb8.cell 1
        have fq8 := hb8.frozen 1
        have HX8 := Lib.hid hX8
        have HZ8 := Lib.hid hZ8
        have HS8 := Lib.hid hS8'
        have HO := Lib.hid hpop
        have hps : p ≠ w5.heap.size := by omega
        have hR0 : p ≠ W.heap.size := by omega
        have x0 : w8.cell? ⟨w5.heap.size, 0, none⟩ = some (.int .i64 x.kind) := hX8.cell 0
        have x1 : w8.cell? ⟨w5.heap.size, 1, none⟩ = some (.int .u64 ((word x.set.testBit 0 : Nat) : Int)) := hX8.cell 1
        have x2 : w8.cell? ⟨w5.heap.size, 2, none⟩ = some (.int .u64 ((word x.set.testBit 1 : Nat) : Int)) := hX8.cell 2
        have x3 : w8.cell? ⟨w5.heap.size, 3, none⟩ = some (.int .u64 ((word x.set.testBit 2 : Nat) : Int)) := hX8.cell 3
        have x4 : w8.cell? ⟨w5.heap.size, 4, none⟩ = some (.int .u64 ((word x.set.testBit 3 : Nat) : Int)) := hX8.cell 4
        have x5 : w8.cell? ⟨w5.heap.size, 5, none⟩ = some (.slice B x.kids.len cap) := hX8.cell 5
        have x6 : w8.cell? ⟨w5.heap.size, 6, none⟩ = some (.int .i64 x.lo) := hX8.cell 6
        have x7 : w8.cell? ⟨w5.heap.size, 7, none⟩ = some (.int .i64 x.hi) := hX8.cell 7
        have y0 : w8.cell? ⟨W.heap.size, 0, none⟩ = some (.int .i64 0) := hZ8.1.cell 0
        have y1 : w8.cell? ⟨W.heap.size, 1, none⟩ = some (.int .u64 0) := hZ8.1.cell 1
        have y2 : w8.cell? ⟨W.heap.size, 2, none⟩ = some (.int .u64 0) := hZ8.1.cell 2
        have y3 : w8.cell? ⟨W.heap.size, 3, none⟩ = some (.int .u64 0) := hZ8.1.cell 3
        have y4 : w8.cell? ⟨W.heap.size, 4, none⟩ = some (.int .u64 0) := hZ8.1.cell 4
        have y5 : w8.cell? ⟨W.heap.size, 5, none⟩ = some (.slice none 0 0) := hZ8.1.cell 5
        have y6 : w8.cell? ⟨W.heap.size, 6, none⟩ = some (.int .i64 0) := hZ8.1.cell 6
        have y7 : w8.cell? ⟨W.heap.size, 7, none⟩ = some (.int .i64 0) := hZ8.1.cell 7
        have z0 := hZ8.1.frozen 0
        have z1 := hZ8.1.frozen 1
        have z2 := hZ8.1.frozen 2
        have z3 := hZ8.1.frozen 3
        have z4 := hZ8.1.frozen 4
        have z5 := hZ8.1.frozen 5
        have z6 := hZ8.1.frozen 6
        have z7 := hZ8.1.frozen 7
        clear hX8 hZ8 hS8' hpop hb8 hS8 HN
        unfold lexV
        dsimp only
        go_wp2
        go_region
        go_wp2
        go_light
        have hF := filled HO.out.1 (HS8.out.trans HO.out.2) (HZ8.out.still HO.out.2) rfl hp (HO.out.2.trees hT8.out) (cap := cap) rfl
        refine bodyPost_ret (ret_node Tryz.results145 rfl (Blk.drew hF.1)) rfl ?_
        rw [HE.out]
        exact ⟨_, B, cap, rfl, hF.2.1.drew, hF.2.2.1.drew, hc5, hF.2.2.2.drew⟩
      · have HE := Lib.hid (atomG_open hk (by omega) HX.out (fun c' R' e => by cases e; exact h3))
        have hd : (c.kind != 3) = true := by simp; exact h3
        go_wp2_with fail
        refine (peek_go HP6.out (by omega)).mono ?_
        rintro e w7 ⟨rfl, hw7⟩
        subst hw7
        dsimp only
        go_wp2_with fail
        refine (fail_any _ _ _).mono ?_
        rintro e w8 ⟨rfl, hw8⟩
        subst hw8
        dsimp only
        go_wp2
        rw [HE.out]
        exact ⟨rfl, rfl, HS6.out.1⟩

end Go.Proofs.YtajohcknenngnaaGreat
namespace Go.Proofs.YtajohcknenngnaaGreat
open Go.RowKit
set_option linter.unusedSimpArgs false
set_option linter.unusedVariables false
set_option maxRecDepth 100000

theorem ret_atom {fn : Func} {t2 t3 : Tmp} (h : fn.results = #[.cell t2 39, .tmp t3]) {tmps : Array Value} {w : World} {g : Nat} {a0 a1 a2 a3 a4 a5 a6 a7 c : Value}
    (hp : tmps.getD t2 undef = .pointer (some ⟨g, 0, none⟩)) (hc : tmps.getD t3 undef = c) (hb : Blk w g 39 #[a0, a1, a2, a3, a4, a5, a6, a7]) :
    (results fn tmps).run Tryz.prog w = .ok (.tuple #[.agg #[a0, a1, a2, a3, a4, a5, a6, a7], c]) w := by
  have h1 := run_loadVar_row (P := Tryz.prog) w g 39 39 #[a0, a1, a2, a3, a4, a5, a6, a7] (0, 0) _ hb Tryz.underlying39 rfl (by kernel_rfl)
  simp only [results, h]
  simp only [Array.getD_eq_getD_getElem?] at hp hc
  simp [Sem.run_bind, hp, hc, asAddr, h1, Result.andThen]

set_option maxHeartbeats 4000000 in
theorem atom_nil (n p : Nat) (op : List Int) (W : World) (v : Value) (hP : PAt W p v [] op.length) :
    Calls Tryz.prog 121 #[.pointer (some ⟨p, 0, none⟩)] W (GivesO p op.length v (atomG (n + 1) op []) W) := by
  rw [atomG_nil]
  have hp := hP.lt
  have hv : ∀ g, (v : Value).ownBlock = some g → g < W.heap.size := by
    obtain ⟨_, _, _, _, _, _, hr⟩ := hP
    exact fun g e => (hr.lt g e).2
  have hb1 : Below W.heap.size W (W.alloc (.cells #[.int .i64 0, .int .u64 0, .int .u64 0, .int .u64 0, .int .u64 0, .slice none 0 0, .int .i64 0, .int .i64 0] 39)) := (Below.refl W.heap.size W).alloc (Nat.le_refl _) _
  have HP := Lib.hid (hP.below hb1)
  have HZ := Lib.hid (zr_new hp hv)
  have HS := Lib.hid (Still.of_below (p := p) (v := v) hb1 (Nat.le_of_lt hp))
  clear hP hb1 hv

  go_enter Tryz.func121, Tryz.ntmps121
  go_wp2_with fail
  refine (peek_nil HP.out).mono ?_
  rintro e w1 ⟨rfl, hw1⟩
  subst hw1
  dsimp only
  go_wp2
  go_light
  exact bodyPost_ret (ret_atom Tryz.results121 rfl rfl HZ.out.1) rfl ⟨v, rfl, HP.out, HS.out⟩
set_option maxHeartbeats 4000000 in
theorem atom_stop (n p : Nat) (op : List Int) (y : Lex) (L : List Lex) (W : World) (v : Value) (hP : PAt W p v (y :: L) op.length) (hlen : (y :: L).length ≤ 100000) (h1 : y.kind ≠ 1) (h2 : y.kind ≠ 2) (h5 : isPost y.kind = false) (h3 : ¬ (y.kind = 3 ∧ op.length = 0)) :
    Calls Tryz.prog 121 #[.pointer (some ⟨p, 0, none⟩)] W (GivesO p op.length v (atomG (n + 1) op (y :: L)) W) := by
  rw [atomG_stop h1 h2 h5 h3]
  have h5' : ¬ (5 ≤ y.kind ∧ y.kind ≤ 8) := fun h => by rw [(isPost_iff _).2 h] at h5; cases h5
  have k1 : (y.kind == 1) = false := by simp; omega
  have k2 : (y.kind == 2) = false := by simp; omega
  have k5 : (y.kind == 5) = false := by simp; omega
  have k6 : (y.kind == 6) = false := by simp; omega
  have k7 : (y.kind == 7) = false := by simp; omega
  have k8 : (y.kind == 8) = false := by simp; omega
  simp only [List.length_cons] at hlen
  obtain ⟨Av, cv, hva⟩ : ∃ A c, v = .slice A op.length c := by
    obtain ⟨_, _, _, _, _, _, hr⟩ := hP
    exact own_slice hr
  subst hva
  have hp := hP.lt
  have hv : ∀ g, (.slice Av op.length cv : Value).ownBlock = some g → g < W.heap.size := by
    obtain ⟨_, _, _, _, _, _, hr⟩ := hP
    exact fun g e => (hr.lt g e).2
  have hb1 : Below W.heap.size W (W.alloc (.cells #[.int .i64 0, .int .u64 0, .int .u64 0, .int .u64 0, .int .u64 0, .slice none 0 0, .int .i64 0, .int .i64 0] 39)) := (Below.refl W.heap.size W).alloc (Nat.le_refl _) _
  have HP := Lib.hid (hP.below hb1)
  have HZ := Lib.hid (zr_new hp hv)
  have HS := Lib.hid (Still.of_below (p := p) (v := .slice Av op.length cv) hb1 (Nat.le_of_lt hp))
  clear hP hb1 hv

  obtain ⟨_, _, _, hb, _⟩ := HP.out
  have q1 : (W.alloc (.cells #[.int .i64 0, .int .u64 0, .int .u64 0, .int .u64 0, .int .u64 0, .slice none 0 0, .int .i64 0, .int .i64 0] 39)).cell? ⟨p, 1, none⟩ = some (.slice Av op.length cv) := hb.cell 1
  clear hb
  have HS := Lib.hid HS.out
  by_cases e3 : y.kind = 3
  · have h0 : ((op.length : Int) == 0) = false := by rw [beq_eq_false_iff_ne]; omega
    have k3 : (y.kind == 3) = true := by simp; omega
    clear h3
    go_enter Tryz.func121, Tryz.ntmps121
    go_wp2_with fail
    refine (peek_go HP.out (by omega)).mono ?_
    rintro e w1 ⟨rfl, hw1⟩
    subst hw1
    dsimp only
    go_wp2
    go_light
    exact bodyPost_ret (ret_atom Tryz.results121 rfl rfl HZ.out.1) rfl ⟨_, rfl, HP.out, HS.out⟩
  · have k3 : (y.kind == 3) = false := by simp; omega
    clear h3
    go_enter Tryz.func121, Tryz.ntmps121
    go_wp2_with fail
    refine (peek_go HP.out (by omega)).mono ?_
    rintro e w1 ⟨rfl, hw1⟩
    subst hw1
    dsimp only
    go_wp2
    go_light
    exact bodyPost_ret (ret_atom Tryz.results121 rfl rfl HZ.out.1) rfl ⟨_, rfl, HP.out, HS.out⟩

set_option maxHeartbeats 4000000 in
theorem atom_post (n p : Nat) (op : List Int) (y : Lex) (L : List Lex) (W : World) (v : Value) (hP : PAt W p v (y :: L) op.length) (hlen : (y :: L).length ≤ 100000) (h5 : isPost y.kind = true) :
    Calls Tryz.prog 121 #[.pointer (some ⟨p, 0, none⟩)] W (GivesO p op.length v (atomG (n + 1) op (y :: L)) W) := by
  rw [atomG_post h5]
  have h5' := (isPost_iff _).1 h5
  have hk : y.kind = 5 ∨ y.kind = 6 ∨ y.kind = 7 ∨ y.kind = 8 := by omega
  clear h5 h5'
  simp only [List.length_cons] at hlen
  have hz3 : (0 : Int) < (L.length : Int) + 1 := by omega
  have hp := hP.lt
  have hv : ∀ g, (v : Value).ownBlock = some g → g < W.heap.size := by
    obtain ⟨_, _, _, _, _, _, hr⟩ := hP
    exact fun g e => (hr.lt g e).2
  have hb1 : Below W.heap.size W (W.alloc (.cells #[.int .i64 0, .int .u64 0, .int .u64 0, .int .u64 0, .int .u64 0, .slice none 0 0, .int .i64 0, .int .i64 0] 39)) := (Below.refl W.heap.size W).alloc (Nat.le_refl _) _
  have HP := Lib.hid (hP.below hb1)
  have HZ := Lib.hid (zr_new hp hv)
  have HS := Lib.hid (Still.of_below (p := p) (v := v) hb1 (Nat.le_of_lt hp))
  clear hP hb1 hv

  obtain ⟨A, cap, xs, hb, hc, hl, _⟩ := HP.out
  obtain ⟨b, o, rfl, hbp, ⟨c0, c1, _⟩, _⟩ := hl.cons
  have q0 : (W.alloc (.cells #[.int .i64 0, .int .u64 0, .int .u64 0, .int .u64 0, .int .u64 0, .slice none 0 0, .int .i64 0, .int .i64 0] 39)).cell? ⟨p, 0, none⟩ = some (.slice (some ⟨b, o, none⟩) (L.length + 1) cap) := hb.cell 0
  clear hb hl c0 hc
  rcases hk with hk | hk | hk | hk
  all_goals
    go_enter Tryz.func121, Tryz.ntmps121
    go_wp2_with fail
    refine (peek_go HP.out (by omega)).mono ?_
    rintro e w1 ⟨rfl, hw1⟩
    subst hw1
    rw [hk]
    dsimp only
    go_wp2_with fail
    refine (fail_any _ _ _).mono ?_
    rintro e w8 ⟨rfl, hw8⟩
    subst hw8
    dsimp only
    go_wp2
    exact ⟨rfl, rfl, HS.out.1⟩
set_option maxHeartbeats 4000000 in
theorem atom_lone (n p : Nat) (op : List Int) (y : Lex) (L : List Lex) (W : World) (v : Value) (hP : PAt W p v (y :: L) op.length) (hlen : (y :: L).length ≤ 100000) (h3 : y.kind = 3) (h0 : op.length = 0) :
    Calls Tryz.prog 121 #[.pointer (some ⟨p, 0, none⟩)] W (GivesO p op.length v (atomG (n + 1) op (y :: L)) W) := by
  rw [atomG_lone h3 h0]
  simp only [List.length_cons] at hlen
  have hz3 : (0 : Int) < (L.length : Int) + 1 := by omega
  have hd : ((op.length : Int) == 0) = true := by rw [beq_iff_eq]; omega
  obtain ⟨Av, cv, hva⟩ : ∃ A c, v = .slice A op.length c := by
    obtain ⟨_, _, _, _, _, _, hr⟩ := hP
    exact own_slice hr
  subst hva
  have hp := hP.lt
  have hv : ∀ g, (.slice Av op.length cv : Value).ownBlock = some g → g < W.heap.size := by
    obtain ⟨_, _, _, _, _, _, hr⟩ := hP
    exact fun g e => (hr.lt g e).2
  have hb1 : Below W.heap.size W (W.alloc (.cells #[.int .i64 0, .int .u64 0, .int .u64 0, .int .u64 0, .int .u64 0, .slice none 0 0, .int .i64 0, .int .i64 0] 39)) := (Below.refl W.heap.size W).alloc (Nat.le_refl _) _
  have HP := Lib.hid (hP.below hb1)
  have HZ := Lib.hid (zr_new hp hv)
  have HS := Lib.hid (Still.of_below (p := p) (v := .slice Av op.length cv) hb1 (Nat.le_of_lt hp))
  clear hP hb1 hv

  obtain ⟨A, cap, xs, hb, hc, hl, _⟩ := HP.out
  obtain ⟨b, o, rfl, hbp, ⟨c0, c1, _⟩, _⟩ := hl.cons
  have q0 : (W.alloc (.cells #[.int .i64 0, .int .u64 0, .int .u64 0, .int .u64 0, .int .u64 0, .slice none 0 0, .int .i64 0, .int .i64 0] 39)).cell? ⟨p, 0, none⟩ = some (.slice (some ⟨b, o, none⟩) (L.length + 1) cap) := hb.cell 0
  have q1 : (W.alloc (.cells #[.int .i64 0, .int .u64 0, .int .u64 0, .int .u64 0, .int .u64 0, .slice none 0 0, .int .i64 0, .int .i64 0] 39)).cell? ⟨p, 1, none⟩ = some (.slice Av op.length cv) := hb.cell 1
  clear hb hl c0 hc h0
  go_enter Tryz.func121, Tryz.ntmps121
  go_wp2_with fail
  refine (peek_go HP.out (by omega)).mono ?_
  rintro e w1 ⟨rfl, hw1⟩
  subst hw1
  rw [h3]
  dsimp only
  go_wp2_with fail
  refine (fail_any _ _ _).mono ?_
  rintro e w8 ⟨rfl, hw8⟩
  subst hw8
  dsimp only
  go_wp2
  exact ⟨rfl, rfl, HS.out.1⟩
set_option maxHeartbeats 4000000 in
theorem atom_set (n p : Nat) (op : List Int) (y : Lex) (L : List Lex) (W : World) (v : Value) (hP : PAt W p v (y :: L) op.length) (hlen : (y :: L).length ≤ 100000) (h1 : y.kind = 1) :
    Calls Tryz.prog 121 #[.pointer (some ⟨p, 0, none⟩)] W (GivesO p op.length v (atomG (n + 1) op (y :: L)) W) := by
  rw [atomG_set h1]
  simp only [List.length_cons] at hlen
  have hp := hP.lt
  have hv : ∀ g, (v : Value).ownBlock = some g → g < W.heap.size := by
    obtain ⟨_, _, _, _, _, _, hr⟩ := hP
    exact fun g e => (hr.lt g e).2
  have hb1 : Below W.heap.size W (W.alloc (.cells #[.int .i64 0, .int .u64 0, .int .u64 0, .int .u64 0, .int .u64 0, .slice none 0 0, .int .i64 0, .int .i64 0] 39)) := (Below.refl W.heap.size W).alloc (Nat.le_refl _) _
  have HP := Lib.hid (hP.below hb1)
  have HZ := Lib.hid (zr_new hp hv)
  have HS := Lib.hid (Still.of_below (p := p) (v := v) hb1 (Nat.le_of_lt hp))
  clear hP hb1 hv

  have HN := Lib.hid (next_any HP.out (by omega))
  go_enter Tryz.func121, Tryz.ntmps121
  go_wp2_with fail
  refine (peek_go HP.out (by omega)).mono ?_
  rintro e w1 ⟨rfl, hw1⟩
  subst hw1
  rw [h1]
  dsimp only
  go_wp2_with fail
  refine HN.out.mono ?_
  rintro e w2 ⟨rfl, hP2, hS2⟩
  have HZ2 := Lib.hid (HZ.out.still hS2)
  have HS2 := Lib.hid (HS.out.trans hS2)
  have HP2 := Lib.hid hP2
  clear hP2 hS2 HN HP HS HZ
  unfold lexV
  dsimp only
  go_wp2_with fail
  refine (tbytes_any y.set _).mono ?_
  rintro e w3 ⟨rfl, hb3⟩
  have hZ3 := HZ2.out.below hb3
  have HP3 := Lib.hid (HP2.out.below hb3)
  have HS3 := Lib.hid (HS2.out.more hb3 (Nat.le_of_lt hp))
  have hX := hZ3.1
  have y0 : w3.cell? ⟨W.heap.size, 0, none⟩ = some (.int .i64 0) := hX.cell 0
  have y1 : w3.cell? ⟨W.heap.size, 1, none⟩ = some (.int .u64 0) := hX.cell 1
  have y2 : w3.cell? ⟨W.heap.size, 2, none⟩ = some (.int .u64 0) := hX.cell 2
  have y3 : w3.cell? ⟨W.heap.size, 3, none⟩ = some (.int .u64 0) := hX.cell 3
  have y4 : w3.cell? ⟨W.heap.size, 4, none⟩ = some (.int .u64 0) := hX.cell 4
  have y5 : w3.cell? ⟨W.heap.size, 5, none⟩ = some (.slice none 0 0) := hX.cell 5
  have y6 : w3.cell? ⟨W.heap.size, 6, none⟩ = some (.int .i64 0) := hX.cell 6
  have y7 : w3.cell? ⟨W.heap.size, 7, none⟩ = some (.int .i64 0) := hX.cell 7
  have z0 := hX.frozen 0
  have z1 := hX.frozen 1
  have z2 := hX.frozen 2
  have z3 := hX.frozen 3
  have z4 := hX.frozen 4
  have z5 := hX.frozen 5
  have z6 := hX.frozen 6
  have z7 := hX.frozen 7
  have HZ3 := Lib.hid hZ3
  clear hb3 hZ3 hX
  have hv3 : ndV (leafN (maskOf y.set)) none 0 = .agg #[.int .i64 3, .int .u64 ((word ((maskOf y.set).testBit) 0 : Nat) : Int), .int .u64 ((word ((maskOf y.set).testBit) 1 : Nat) : Int), .int .u64 ((word ((maskOf y.set).testBit) 2 : Nat) : Int), .int .u64 ((word ((maskOf y.set).testBit) 3 : Nat) : Int), .slice none 0 0, .int .i64 0, .int .i64 0] := rfl
  rw [hv3]
  clear hv3
  dsimp only
  go_wp2
  go_light
  have hF := filled (x := leafN (maskOf y.set)) (B := none) (cap := 0) HP3.out HS3.out HZ3.out rfl hp trivial rfl
  exact bodyPost_ret (ret_atom Tryz.results121 rfl rfl hF.1) rfl ⟨v, none, 0, rfl, hF.2.1, hF.2.2.1, Nat.le_refl _, trivial⟩
set_option maxHeartbeats 4000000 in
theorem atom_open (n p : Nat) (op : List Int) (y : Lex) (L : List Lex) (W : World) (v : Value) (hA : AltC n) (hP : PAt W p v (y :: L) op.length) (hlen : (y :: L).length ≤ 100000) (h2 : y.kind = 2) (h64 : op.length ≤ 64) (hn : 3 * (y :: L).length < n + 1) :
    Calls Tryz.prog 121 #[.pointer (some ⟨p, 0, none⟩)] W (GivesO p op.length v (atomG (n + 1) op (y :: L)) W) := by
  have hlen' := hlen
  simp only [List.length_cons] at hlen'
  have hp := hP.lt
  have hv : ∀ g, (v : Value).ownBlock = some g → g < W.heap.size := by
    obtain ⟨_, _, _, _, _, _, hr⟩ := hP
    exact fun g e => (hr.lt g e).2
  have hb1 : Below W.heap.size W (W.alloc (.cells #[.int .i64 0, .int .u64 0, .int .u64 0, .int .u64 0, .int .u64 0, .slice none 0 0, .int .i64 0, .int .i64 0] 39)) := (Below.refl W.heap.size W).alloc (Nat.le_refl _) _
  have HP := Lib.hid (hP.below hb1)
  have HZ := Lib.hid (zr_new hp hv)
  have HS := Lib.hid (Still.of_below (p := p) (v := v) hb1 (Nat.le_of_lt hp))
  clear hP hb1 hv

  have HG : Hid (Calls Tryz.prog 145 #[.pointer (some ⟨p, 0, none⟩)] (W.alloc (.cells #[.int .i64 0, .int .u64 0, .int .u64 0, .int .u64 0, .int .u64 0, .slice none 0 0, .int .i64 0, .int .i64 0] 39)) (GivesG p op.length v (atomG (n + 1) op (y :: L)) (W.alloc (.cells #[.int .i64 0, .int .u64 0, .int .u64 0, .int .u64 0, .int .u64 0, .slice none 0 0, .int .i64 0, .int .i64 0] 39)))) := Lib.hid (by
    by_cases h : op.length = 64
    · exact group_deep n p op y L _ v HP.out hlen h2 h
    · exact group_go n p op y L _ v hA HP.out hlen h2 (by omega) hn)
  have hs1 : (W.alloc (.cells #[.int .i64 0, .int .u64 0, .int .u64 0, .int .u64 0, .int .u64 0, .slice none 0 0, .int .i64 0, .int .i64 0] 39)).heap.size = W.heap.size + 1 := by simp
  have Hs1 := Lib.hid hs1
  clear hs1
  generalize hr : atomG (n + 1) op (y :: L) = r at *
  clear hr
  go_enter Tryz.func121, Tryz.ntmps121
  go_wp2_with fail
  refine (peek_go HP.out (by omega)).mono ?_
  rintro e w1 ⟨rfl, hw1⟩
  subst hw1
  rw [h2]
  dsimp only
  go_wp2_with fail
  refine HG.out.mono ?_
  match r with
  | .error x =>
    rintro e w3 ⟨rfl, hb3⟩
    dsimp only
    go_wp2
    exact ⟨rfl, rfl, HS.out.1.trans hb3⟩
  | .ok (none, R) =>
    intro e w3 h
    exact h.elim
  | .ok (some x, R) =>
    rintro e w3 ⟨v3, B, cap, rfl, hP3, hS3, hc3, ht3⟩
    have hZ3 := HZ.out.still hS3
    have HP3 := Lib.hid hP3
    have HS3 := Lib.hid (HS.out.trans hS3)
    have HT3 := Lib.hid ht3
    have hX := hZ3.1
    have y0 : w3.cell? ⟨W.heap.size, 0, none⟩ = some (.int .i64 0) := hX.cell 0
    have y1 : w3.cell? ⟨W.heap.size, 1, none⟩ = some (.int .u64 0) := hX.cell 1
    have y2 : w3.cell? ⟨W.heap.size, 2, none⟩ = some (.int .u64 0) := hX.cell 2
    have y3 : w3.cell? ⟨W.heap.size, 3, none⟩ = some (.int .u64 0) := hX.cell 3
    have y4 : w3.cell? ⟨W.heap.size, 4, none⟩ = some (.int .u64 0) := hX.cell 4
    have y5 : w3.cell? ⟨W.heap.size, 5, none⟩ = some (.slice none 0 0) := hX.cell 5
    have y6 : w3.cell? ⟨W.heap.size, 6, none⟩ = some (.int .i64 0) := hX.cell 6
    have y7 : w3.cell? ⟨W.heap.size, 7, none⟩ = some (.int .i64 0) := hX.cell 7
    have z0 := hX.frozen 0
    have z1 := hX.frozen 1
    have z2 := hX.frozen 2
    have z3 := hX.frozen 3
    have z4 := hX.frozen 4
    have z5 := hX.frozen 5
    have z6 := hX.frozen 6
    have z7 := hX.frozen 7
    have HZ3 := Lib.hid hZ3
    clear hP3 hS3 ht3 hZ3 hX HP HG HS HZ
    unfold ndV
    dsimp only
    go_wp2
    go_light
    have hF := filled (x := x) (B := B) (cap := cap) HP3.out HS3.out HZ3.out rfl hp (HT3.out.weak (fun b hb _ => ⟨by rw [← Hs1.out]; exact hb.1, hb.2⟩)) rfl
    exact bodyPost_ret (ret_atom Tryz.results121 rfl rfl hF.1) rfl ⟨v3, B, cap, rfl, hF.2.1, hF.2.2.1, hc3, hF.2.2.2⟩

theorem atom_step {n : Nat} (hA : AltC n) : AtomC (n + 1) := by
  intro p op L W v hP hlen h64 hn
  match L, hP, hlen, hn with
  | [], hP, _, _ => exact atom_nil n p op W v hP
  | y :: L, hP, hlen, hn =>
    by_cases h1 : y.kind = 1
    · exact atom_set n p op y L W v hP hlen h1
    by_cases h2 : y.kind = 2
    · exact atom_open n p op y L W v hA hP hlen h2 h64 hn
    cases h5 : isPost y.kind
    · by_cases h3 : y.kind = 3 ∧ op.length = 0
      · exact atom_lone n p op y L W v hP hlen h3.1 h3.2
      · exact atom_stop n p op y L W v hP hlen h1 h2 h5 h3
    · exact atom_post n p op y L W v hP hlen h5

end Go.Proofs.YtajohcknenngnaaGreat
namespace Go.Proofs.YtajohcknenngnaaGreat
open Go.RowKit
set_option linter.unusedSimpArgs false
set_option linter.unusedVariables false
set_option maxRecDepth 100000

/-- The nodes acc stand in the row u; R is left. -/
def RowAt (W : World) (v0 : Value) (p m : Nat) (R : List Lex) (acc : List Nd) (u v : Value) (w : World) : Prop :=
  PAt w p v R m ∧ Still p W v0 w v ∧ Zr p W.heap.size v w ∧ (∃ cs, w.ownsRow (W.heap.size + 1) 39 8 u acc.length cs ∧ CellsAre w (fun b => New (W.heap.size + 1) p v b ∧ some b ≠ u.ownBlock) acc cs) ∧ (∀ g, u.ownBlock = some g → Off p v g)

section
variable {W w w' : World} {v0 u v v' : Value} {p m : Nat} {R R' : List Lex} {acc : List Nd}
theorem RowAt.own (h : RowAt W v0 p m R acc u v w) : ∀ g, u.ownBlock = some g → W.heap.size + 1 ≤ g ∧ g < w.heap.size := by
  obtain ⟨_, _, _, ⟨cs, hr, _⟩, _⟩ := h
  exact hr.lt
theorem RowAt.still (h : RowAt W v0 p m R acc u v w) (hs : Still p w v w' v') (hp : PAt w' p v' R' m) : RowAt W v0 p m R' acc u v' w' := by
  obtain ⟨h1, h2, h3, ⟨cs, hr, hc⟩, ho⟩ := h
  refine ⟨hp, h2.trans hs, h3.still hs, ⟨cs, hs.own hr ho, hc.keep (fun b o hb hl => hs.cell hb.1.2 hl o) (fun b hb hl => ⟨⟨hb.1.1, hs.off hb.1.2 hl⟩, hb.2⟩)⟩, fun g e => hs.off (ho g e) (hr.lt g e).2⟩
theorem RowAt.below (h : RowAt W v0 p m R acc u v w) (hb : Below w.heap.size w w') : RowAt W v0 p m R acc u v w' :=
  h.still (Still.of_below hb (Nat.le_of_lt h.1.lt)) (h.1.below hb)
theorem PAt.row {w w' : World} {p : Nat} {v : Value} {L : List Lex} {m : Nat} {row : Option Nat} (h : PAt w p v L m) (hg : w.grownBy w' row) (hr : ∀ g, row = some g → p < g ∧ Off p v g) : PAt w' p v L m := by
  obtain ⟨A, cap, xs, hb, hc, hl, hr2⟩ := h
  refine ⟨A, cap, xs, hb.grown hg (fun e => by have := (hr p e.symm).1; omega), hc, hl.below ⟨hg.os, hg.tape, hg.output, hg.size, fun k hk => hg.block k (Nat.lt_trans hk hb.lt) (fun e => by have := (hr k e.symm).1; omega)⟩, hr2.kept hg ?_⟩
  cases hvo : v.ownBlock with
  | none => exact .inl rfl
  | some g => exact .inr (fun e => (hr g e.symm).2.2 (by rw [hvo]))
theorem Still.row {row : Option Nat} (h : Still p W v0 w v) (hg : w.grownBy w' row) (hp : p < W.heap.size) (hr : ∀ g, row = some g → W.heap.size ≤ g) : Still p W v0 w' v :=
  ⟨h.1.grown hg (by have := h.1.size; omega) (fun k e => by have := hr k e; omega), fun b hb ho => (hg.block b (Nat.lt_of_lt_of_le hb h.1.size) (fun e => by have := hr b e.symm; omega)).trans (h.2.1 b hb ho), h.2.2⟩
theorem RowAt.append {z : Nd} {B : Option Addr} {cap gg capg : Nat} {o : Obj} {cs : List Value} (h : RowAt W v0 p m R acc u v w) (hp : p < W.heap.size)
    (hz : TreesAt w (fun b => New (W.heap.size + 1) p v b ∧ some b ≠ u.ownBlock) z.kids B) (hcz : z.kids.len ≤ cap) (hcs : CellsAre w (fun b => New (W.heap.size + 1) p v b ∧ some b ≠ u.ownBlock) acc cs)
    (hown : w'.ownsRow (W.heap.size + 1) 39 8 (.slice (some ⟨gg, 0, none⟩) (acc.length + 1) capg) (acc.length + 1) (cs ++ ndCell z B cap)) (hgrow : (w.alloc o).grownBy w' u.ownBlock) (hat : u.ownBlock = some gg ∨ gg = w.heap.size + 1) :
    RowAt W v0 p m R (acc ++ [z]) (.slice (some ⟨gg, 0, none⟩) (acc.length + 1) capg) v w' := by
  have hl := h.own
  obtain ⟨h1, h2, h3, _, ho⟩ := h
  have hW := h2.1.size
  have hb : Below w.heap.size w (w.alloc o) := (Below.refl _ _).alloc (Nat.le_refl _) o
  have hv : ∀ g, v.ownBlock = some g → g < w.heap.size := by
    obtain ⟨_, _, _, _, _, _, hr⟩ := h1
    exact fun g e => (hr.lt g e).2
  have hk : ∀ b i, (New (W.heap.size + 1) p v b ∧ some b ≠ u.ownBlock) → b < w.heap.size → w'.cell? ⟨b, i, none⟩ = w.cell? ⟨b, i, none⟩ := fun b i hb2 hbl =>
    (World.cell?_of_block (hgrow.block b (by simp; omega) hb2.2)).trans (hb.cell (p := ⟨b, i, none⟩) hbl)
  have hq : ∀ b, (New (W.heap.size + 1) p v b ∧ some b ≠ u.ownBlock) → b < w.heap.size → New (W.heap.size + 1) p v b ∧ some b ≠ (Value.slice (some ⟨gg, 0, none⟩) (acc.length + 1) capg).ownBlock := fun b hb2 hbl => ⟨hb2.1, fun e => by
    have e' : b = gg := by simpa [Value.ownBlock] using e
    rcases hat with hh | hh
    · exact hb2.2 (by rw [e', hh])
    · omega⟩
  refine ⟨(h1.below hb).row hgrow (fun g e => ⟨by have := (hl g e).1; omega, ho g e⟩), (h2.more hb (Nat.le_of_lt hp)).row hgrow hp (fun g e => by have := (hl g e).1; omega),
    ⟨(h3.1.below hb h3.1.lt).grown hgrow (fun e => by have := (hl _ e.symm).1; omega), h3.2⟩, ⟨cs ++ ndCell z B cap, by simpa using hown, ?_⟩, fun g e => ?_⟩
  · exact CellsAre.snoc hcz (hz.keep hk hq) (hcs.keep hk hq)
  · obtain rfl : gg = g := by simpa [Value.ownBlock] using e
    rcases hat with hh | hh
    · exact ho _ hh
    · exact ⟨by omega, fun e => by have := hv _ e.symm; omega⟩
theorem RowAt.trees (h : RowAt W v0 p m R acc u v w) : ∃ A cap, u = .slice A acc.length cap ∧ acc.length ≤ cap ∧ TreesAt w (New (W.heap.size + 1) p v) (Trees.of acc) A := by
  have hl := h.own
  obtain ⟨_, _, _, ⟨cs, hr, hc⟩, ho⟩ := h
  exact trees_of hr (hc.keep (fun _ _ _ _ => rfl) (fun b hb _ => hb.1)) (fun g e => ⟨(hl g e).1, ho g e⟩)
end

theorem info_node : (Tryz.prog.info? 39).map (fun i => (i.zero, i.size, i.bytes)) = some (some (.agg #[.int .i64 0, .int .u64 0, .int .u64 0, .int .u64 0, .int .u64 0, .slice none 0 0, .int .i64 0, .int .i64 0]), 8, 80) := by kernel_rfl

end Go.Proofs.YtajohcknenngnaaGreat
