/- Texts of the claim. -/
import Derived.Test.YtofbfafnpdaejaaGreatDoorLShowW
namespace Go.Proofs.YtofbfafnpdaejaaGreatDoor
open Go.RowKit
set_option linter.unusedSimpArgs false
set_option linter.unusedVariables false
set_option maxRecDepth 100000
set_option maxHeartbeats 8000000
def WriteC (x : Nd) : Prop := ∀ (B : Option Addr) (cap base g : Nat) (S : Nat → Prop) (L : List Lex) (w : World), TreesAt w (fun b => ¬ S b) x.kids B → WrAt w base g S L → base ≤ w.heap.size → L.length + x.write.length ≤ 90000000 →
 Calls Tryz.prog 161 #[.pointer (some ⟨g, 0, none⟩), ndV x B cap] w (WrOut base g S w (L ++ x.write))
theorem cell_blk {w w' : World} {b o : Nat} (h : w'.heap[b]? = w.heap[b]?) : w'.cell? ⟨b, o, none⟩ = w.cell? ⟨b, o, none⟩ := by
 simp only [World.cell?, h]
theorem TreesAt.movesW {base : Nat} {S S1 : Nat → Prop} {w w1 : World} {F : Trees} {B : Option Addr} (h : TreesAt w (fun b => ¬ S b) F B) (hm : Moves base S w S1 w1) : TreesAt w1 (fun b => ¬ S1 b) F B :=
 h.keep (fun b o hb hl => cell_blk (hm.kept b hl hb)) (fun b hb hl => hm.notIn hl hb)
structure KFr (w : World) (base g pb : Nat) (S : Nat → Prop) (nd : Array Value) (S1 : Nat → Prop) (L : List Lex) (w1 : World) : Prop where
 x : Blk w1 w.heap.size 28 nd
 p : w1.cell? ⟨pb, 0, none⟩ = some (.pointer (some ⟨g, 0, none⟩))
 wr : WrAt w1 base g S1 L
 mvs : Moves base S w S1 w1
 nx : ¬ S1 w.heap.size
 np : ¬ S1 pb
 hb : base ≤ w.heap.size
 hpl : pb < w.heap.size
theorem KFr.start {w : World} {base g pb : Nat} {S : Nat → Prop} {L : List Lex} (nd : Array Value) (h : WrAt w base g S L) (hb : base ≤ w.heap.size) (hp : w.cell? ⟨pb, 0, none⟩ = some (.pointer (some ⟨g, 0, none⟩))) (hnp : ¬ S pb) : KFr w base g pb S nd S L (w.alloc (.cells nd 28)) :=
 have hl := World.block_lt_of_cell? w _ hp
 ⟨Blk.new w _ _, (cell_blk (Below.heap_alloc w _ pb hl)).trans hp, h.alloc _, (Moves.refl base S w).alloc hb _, h.not (Nat.le_refl _), hnp, hb, hl⟩
theorem KFr.go {w w1 : World} {base g pb : Nat} {S S1 : Nat → Prop} {L : List Lex} {nd : Array Value} (h : KFr w base g pb S nd S1 L w1) {w2 : World} {S2 : Nat → Prop} {L2 : List Lex} (hm : WrAt w2 base g S2 L2) (hv : Moves base S1 w1 S2 w2) : KFr w base g pb S nd S2 L2 w2 :=
 have hl : pb < w1.heap.size := World.block_lt_of_cell? w1 _ h.p
 ⟨h.x.moves hv h.nx, (cell_blk (hv.kept pb hl h.np)).trans h.p, hm, h.mvs.trans hv, hv.notIn h.x.lt h.nx, hv.notIn hl h.np, h.hb, h.hpl⟩
theorem KFr.below {w w1 : World} {base g pb : Nat} {S S1 : Nat → Prop} {L : List Lex} {nd : Array Value} (h : KFr w base g pb S nd S1 L w1) {w2 : World} (hB : Below w1.heap.size w1 w2) : KFr w base g pb S nd S1 L w2 :=
 h.go (h.wr.below hB) (Moves.of_below hB (by have := h.mvs.size; have := h.hb; omega))
theorem KFr.size {w w1 : World} {base g pb : Nat} {S S1 : Nat → Prop} {L : List Lex} {nd : Array Value} (h : KFr w base g pb S nd S1 L w1) : base ≤ w1.heap.size := by
 have := h.mvs.size; have := h.hb; omega
theorem kid_openA (z : Nd) (C : Option Addr) (cap : Nat) (least : Int) (base g pb : Nat) (S : Nat → Prop) (L : List Lex) (w : World) (ht : TreesAt w (fun b => ¬ S b) z.kids C) (h : WrAt w base g S L) (hb : base ≤ w.heap.size) (hp : w.cell? ⟨pb, 0, none⟩ = some (.pointer (some ⟨g, 0, none⟩))) (hnp : ¬ S pb) (hk1 : 1 ≤ z.kind) (hk9 : z.kind ≤ 9) (hW : WriteC z) (hl : L.length + z.write.length + 2 ≤ 90000000) (h1 : levelS z.kind < least) (h2 : 2 < least) : Calls Tryz.prog 205 #[ndV z C cap, .int .i64 least, .pointer (some ⟨pb, 0, none⟩)] w (WrOut base g S w (L ++ (lexK 2 :: (z.write ++ [lexK 3])))) := by
 have hF1 := KFr.start #[.int .i64 z.kind, .int .u64 (word z.set.testBit 0), .int .u64 (word z.set.testBit 1), .int .u64 (word z.set.testBit 2), .int .u64 (word z.set.testBit 3), .slice C z.kids.len cap, .int .i64 z.lo, .int .i64 z.hi] h hb hp hnp
 have HL1 := Lib.hid (level_go z C cap (w.alloc (.cells #[.int .i64 z.kind, .int .u64 (word z.set.testBit 0), .int .u64 (word z.set.testBit 1), .int .u64 (word z.set.testBit 2), .int .u64 (word z.set.testBit 3), .slice C z.kids.len cap, .int .i64 z.lo, .int .i64 z.hi] 28)) hk1 hk9)
 have HLV := Lib.hid (fun (w' : World) => level_go z C cap w' hk1 hk9)
 have HF1 := Lib.hid hF1
 have HT := Lib.hid ht
 have HW := Lib.hid hW
 unfold ndV at HL1 HLV ⊢
 generalize levelS z.kind = lv at *
 clear hF1 ht hW h hp hnp hk1 hk9
 go_enter Tryz.func205, Tryz.ntmps205
 go_wp2_with fail
 refine HL1.out.mono ?_
 rintro e w2 ⟨rfl, hb2⟩
 have hF2 := HF1.out.below hb2
 have n0 := (hF2).x.cell 0
 have n1 := (hF2).x.cell 1
 have n2 := (hF2).x.cell 2
 have n3 := (hF2).x.cell 3
 have n4 := (hF2).x.cell 4
 have n5 := (hF2).x.cell 5
 have n6 := (hF2).x.cell 6
 have n7 := (hF2).x.cell 7
 have p0 := (hF2).p
 have hlx := (hF2).x.lt
 simp only [List.getElem?_toArray, List.getElem?_cons_zero, List.getElem?_cons_succ] at n0 n1 n2 n3 n4 n5 n6 n7
 have HF2 := Lib.hid hF2
 clear hF2 HF1 HL1 hb2
 dsimp only
 have HP := Lib.hid (wput_go base g S L 2 w2 (HF2).out.wr (HF2).out.size (by omega))
 go_wp2_with fail
 refine HP.out.mono ?_
 rintro e w4 ⟨rfl, S4, hm4, hv4⟩
 have hF4 := (HF2).out.go hm4 hv4
 clear n0 n1 n2 n3 n4 n5 n6 n7 p0 hlx
 have n0 := (hF4).x.cell 0
 have n1 := (hF4).x.cell 1
 have n2 := (hF4).x.cell 2
 have n3 := (hF4).x.cell 3
 have n4 := (hF4).x.cell 4
 have n5 := (hF4).x.cell 5
 have n6 := (hF4).x.cell 6
 have n7 := (hF4).x.cell 7
 have p0 := (hF4).p
 have hlx := (hF4).x.lt
 simp only [List.getElem?_toArray, List.getElem?_cons_zero, List.getElem?_cons_succ] at n0 n1 n2 n3 n4 n5 n6 n7
 have HF4 := Lib.hid hF4
 clear hF4 hm4 hv4 HP HF2
 dsimp only
 have HI := Lib.hid (HW.out C cap base g S4 (L ++ [lexK 2]) w4 (HT.out.movesW (HF4).out.mvs) (HF4).out.wr (HF4).out.size (by (try simp only [List.length_append, List.length_cons, List.length_nil]); omega))
 unfold ndV at HI
 go_wp2_with fail
 refine HI.out.mono ?_
 rintro e w5 ⟨rfl, S5, hm5, hv5⟩
 have hF5 := (HF4).out.go hm5 hv5
 clear n0 n1 n2 n3 n4 n5 n6 n7 p0 hlx
 have n0 := (hF5).x.cell 0
 have n1 := (hF5).x.cell 1
 have n2 := (hF5).x.cell 2
 have n3 := (hF5).x.cell 3
 have n4 := (hF5).x.cell 4
 have n5 := (hF5).x.cell 5
 have n6 := (hF5).x.cell 6
 have n7 := (hF5).x.cell 7
 have p0 := (hF5).p
 have hlx := (hF5).x.lt
 simp only [List.getElem?_toArray, List.getElem?_cons_zero, List.getElem?_cons_succ] at n0 n1 n2 n3 n4 n5 n6 n7
 have HF5 := Lib.hid hF5
 clear hF5 hm5 hv5 HI
 dsimp only
 have HP := Lib.hid (wput_go base g S5 (L ++ [lexK 2] ++ z.write) 3 w5 HF5.out.wr HF5.out.size (by (try simp only [List.length_append, List.length_cons, List.length_nil]); omega))
 go_wp2_with fail
 refine HP.out.mono ?_
 rintro e w6 ⟨rfl, S6, hm6, hv6⟩
 have HF6 := Lib.hid (HF5.out.go hm6 hv6)
 clear n0 n1 n2 n3 n4 n5 n6 n7 p0 hlx
 clear hm6 hv6 HP HF5
 dsimp only
 go_wp2
 go_light
 go_end0
 have e6 : L ++ (lexK 2 :: (z.write ++ [lexK 3])) = L ++ [lexK 2] ++ z.write ++ [lexK 3] := by simp
 rw [e6]
 exact ⟨rfl, S6, HF6.out.wr, HF6.out.mvs⟩
theorem kid_openB (z : Nd) (C : Option Addr) (cap : Nat) (least : Int) (base g pb : Nat) (S : Nat → Prop) (L : List Lex) (w : World) (ht : TreesAt w (fun b => ¬ S b) z.kids C) (h : WrAt w base g S L) (hb : base ≤ w.heap.size) (hp : w.cell? ⟨pb, 0, none⟩ = some (.pointer (some ⟨g, 0, none⟩))) (hnp : ¬ S pb) (hk1 : 1 ≤ z.kind) (hk9 : z.kind ≤ 9) (hW : WriteC z) (hl : L.length + z.write.length + 2 ≤ 90000000) (h1 : levelS z.kind < least) (h2 : ¬ 2 < least) (h3 : 0 < levelS z.kind) : Calls Tryz.prog 205 #[ndV z C cap, .int .i64 least, .pointer (some ⟨pb, 0, none⟩)] w (WrOut base g S w (L ++ (lexK 2 :: (z.write ++ [lexK 3])))) := by
 have hF1 := KFr.start #[.int .i64 z.kind, .int .u64 (word z.set.testBit 0), .int .u64 (word z.set.testBit 1), .int .u64 (word z.set.testBit 2), .int .u64 (word z.set.testBit 3), .slice C z.kids.len cap, .int .i64 z.lo, .int .i64 z.hi] h hb hp hnp
 have HL1 := Lib.hid (level_go z C cap (w.alloc (.cells #[.int .i64 z.kind, .int .u64 (word z.set.testBit 0), .int .u64 (word z.set.testBit 1), .int .u64 (word z.set.testBit 2), .int .u64 (word z.set.testBit 3), .slice C z.kids.len cap, .int .i64 z.lo, .int .i64 z.hi] 28)) hk1 hk9)
 have HLV := Lib.hid (fun (w' : World) => level_go z C cap w' hk1 hk9)
 have HF1 := Lib.hid hF1
 have HT := Lib.hid ht
 have HW := Lib.hid hW
 unfold ndV at HL1 HLV ⊢
 generalize levelS z.kind = lv at *
 clear hF1 ht hW h hp hnp hk1 hk9
 go_enter Tryz.func205, Tryz.ntmps205
 go_wp2_with fail
 refine HL1.out.mono ?_
 rintro e w2 ⟨rfl, hb2⟩
 have hF2 := HF1.out.below hb2
 have n0 := (hF2).x.cell 0
 have n1 := (hF2).x.cell 1
 have n2 := (hF2).x.cell 2
 have n3 := (hF2).x.cell 3
 have n4 := (hF2).x.cell 4
 have n5 := (hF2).x.cell 5
 have n6 := (hF2).x.cell 6
 have n7 := (hF2).x.cell 7
 have p0 := (hF2).p
 have hlx := (hF2).x.lt
 simp only [List.getElem?_toArray, List.getElem?_cons_zero, List.getElem?_cons_succ] at n0 n1 n2 n3 n4 n5 n6 n7
 have HF2 := Lib.hid hF2
 clear hF2 HF1 HL1 hb2
 dsimp only
 go_wp2_with fail
 refine (HLV.out _).mono ?_
 rintro e w3 ⟨rfl, hb3⟩
 have hF3 := HF2.out.below hb3
 clear n0 n1 n2 n3 n4 n5 n6 n7 p0 hlx
 have n0 := (hF3).x.cell 0
 have n1 := (hF3).x.cell 1
 have n2 := (hF3).x.cell 2
 have n3 := (hF3).x.cell 3
 have n4 := (hF3).x.cell 4
 have n5 := (hF3).x.cell 5
 have n6 := (hF3).x.cell 6
 have n7 := (hF3).x.cell 7
 have p0 := (hF3).p
 have hlx := (hF3).x.lt
 simp only [List.getElem?_toArray, List.getElem?_cons_zero, List.getElem?_cons_succ] at n0 n1 n2 n3 n4 n5 n6 n7
 have HF3 := Lib.hid hF3
 clear hF3 hb3 HF2
 dsimp only
 have HP := Lib.hid (wput_go base g S L 2 w3 (HF3).out.wr (HF3).out.size (by omega))
 go_wp2_with fail
 refine HP.out.mono ?_
 rintro e w4 ⟨rfl, S4, hm4, hv4⟩
 have hF4 := (HF3).out.go hm4 hv4
 clear n0 n1 n2 n3 n4 n5 n6 n7 p0 hlx
 have n0 := (hF4).x.cell 0
 have n1 := (hF4).x.cell 1
 have n2 := (hF4).x.cell 2
 have n3 := (hF4).x.cell 3
 have n4 := (hF4).x.cell 4
 have n5 := (hF4).x.cell 5
 have n6 := (hF4).x.cell 6
 have n7 := (hF4).x.cell 7
 have p0 := (hF4).p
 have hlx := (hF4).x.lt
 simp only [List.getElem?_toArray, List.getElem?_cons_zero, List.getElem?_cons_succ] at n0 n1 n2 n3 n4 n5 n6 n7
 have HF4 := Lib.hid hF4
 clear hF4 hm4 hv4 HP HF3
 dsimp only
 have HI := Lib.hid (HW.out C cap base g S4 (L ++ [lexK 2]) w4 (HT.out.movesW (HF4).out.mvs) (HF4).out.wr (HF4).out.size (by (try simp only [List.length_append, List.length_cons, List.length_nil]); omega))
 unfold ndV at HI
 go_wp2_with fail
 refine HI.out.mono ?_
 rintro e w5 ⟨rfl, S5, hm5, hv5⟩
 have hF5 := (HF4).out.go hm5 hv5
 clear n0 n1 n2 n3 n4 n5 n6 n7 p0 hlx
 have n0 := (hF5).x.cell 0
 have n1 := (hF5).x.cell 1
 have n2 := (hF5).x.cell 2
 have n3 := (hF5).x.cell 3
 have n4 := (hF5).x.cell 4
 have n5 := (hF5).x.cell 5
 have n6 := (hF5).x.cell 6
 have n7 := (hF5).x.cell 7
 have p0 := (hF5).p
 have hlx := (hF5).x.lt
 simp only [List.getElem?_toArray, List.getElem?_cons_zero, List.getElem?_cons_succ] at n0 n1 n2 n3 n4 n5 n6 n7
 have HF5 := Lib.hid hF5
 clear hF5 hm5 hv5 HI
 dsimp only
 have HP := Lib.hid (wput_go base g S5 (L ++ [lexK 2] ++ z.write) 3 w5 HF5.out.wr HF5.out.size (by (try simp only [List.length_append, List.length_cons, List.length_nil]); omega))
 go_wp2_with fail
 refine HP.out.mono ?_
 rintro e w6 ⟨rfl, S6, hm6, hv6⟩
 have HF6 := Lib.hid (HF5.out.go hm6 hv6)
 clear n0 n1 n2 n3 n4 n5 n6 n7 p0 hlx
 clear hm6 hv6 HP HF5
 dsimp only
 go_wp2
 go_light
 go_end0
 have e6 : L ++ (lexK 2 :: (z.write ++ [lexK 3])) = L ++ [lexK 2] ++ z.write ++ [lexK 3] := by simp
 rw [e6]
 exact ⟨rfl, S6, HF6.out.wr, HF6.out.mvs⟩
theorem kid_plainC (z : Nd) (C : Option Addr) (cap : Nat) (least : Int) (base g pb : Nat) (S : Nat → Prop) (L : List Lex) (w : World) (ht : TreesAt w (fun b => ¬ S b) z.kids C) (h : WrAt w base g S L) (hb : base ≤ w.heap.size) (hp : w.cell? ⟨pb, 0, none⟩ = some (.pointer (some ⟨g, 0, none⟩))) (hnp : ¬ S pb) (hk1 : 1 ≤ z.kind) (hk9 : z.kind ≤ 9) (hW : WriteC z) (hl : L.length + z.write.length ≤ 90000000) (h1 : ¬ levelS z.kind < least) : Calls Tryz.prog 205 #[ndV z C cap, .int .i64 least, .pointer (some ⟨pb, 0, none⟩)] w (WrOut base g S w (L ++ z.write)) := by
 have hF1 := KFr.start #[.int .i64 z.kind, .int .u64 (word z.set.testBit 0), .int .u64 (word z.set.testBit 1), .int .u64 (word z.set.testBit 2), .int .u64 (word z.set.testBit 3), .slice C z.kids.len cap, .int .i64 z.lo, .int .i64 z.hi] h hb hp hnp
 have HL1 := Lib.hid (level_go z C cap (w.alloc (.cells #[.int .i64 z.kind, .int .u64 (word z.set.testBit 0), .int .u64 (word z.set.testBit 1), .int .u64 (word z.set.testBit 2), .int .u64 (word z.set.testBit 3), .slice C z.kids.len cap, .int .i64 z.lo, .int .i64 z.hi] 28)) hk1 hk9)
 have HLV := Lib.hid (fun (w' : World) => level_go z C cap w' hk1 hk9)
 have HF1 := Lib.hid hF1
 have HT := Lib.hid ht
 have HW := Lib.hid hW
 unfold ndV at HL1 HLV ⊢
 generalize levelS z.kind = lv at *
 clear hF1 ht hW h hp hnp hk1 hk9
 go_enter Tryz.func205, Tryz.ntmps205
 go_wp2_with fail
 refine HL1.out.mono ?_
 rintro e w2 ⟨rfl, hb2⟩
 have hF2 := HF1.out.below hb2
 have n0 := (hF2).x.cell 0
 have n1 := (hF2).x.cell 1
 have n2 := (hF2).x.cell 2
 have n3 := (hF2).x.cell 3
 have n4 := (hF2).x.cell 4
 have n5 := (hF2).x.cell 5
 have n6 := (hF2).x.cell 6
 have n7 := (hF2).x.cell 7
 have p0 := (hF2).p
 have hlx := (hF2).x.lt
 simp only [List.getElem?_toArray, List.getElem?_cons_zero, List.getElem?_cons_succ] at n0 n1 n2 n3 n4 n5 n6 n7
 have HF2 := Lib.hid hF2
 clear hF2 HF1 HL1 hb2
 dsimp only
 have HI := Lib.hid (HW.out C cap base g S L w2 (HT.out.movesW (HF2).out.mvs) (HF2).out.wr (HF2).out.size (by (try simp only [List.length_append, List.length_cons, List.length_nil]); omega))
 unfold ndV at HI
 go_wp2_with fail
 refine HI.out.mono ?_
 rintro e w5 ⟨rfl, S5, hm5, hv5⟩
 have hF5 := (HF2).out.go hm5 hv5
 clear n0 n1 n2 n3 n4 n5 n6 n7 p0 hlx
 have n0 := (hF5).x.cell 0
 have n1 := (hF5).x.cell 1
 have n2 := (hF5).x.cell 2
 have n3 := (hF5).x.cell 3
 have n4 := (hF5).x.cell 4
 have n5 := (hF5).x.cell 5
 have n6 := (hF5).x.cell 6
 have n7 := (hF5).x.cell 7
 have p0 := (hF5).p
 have hlx := (hF5).x.lt
 simp only [List.getElem?_toArray, List.getElem?_cons_zero, List.getElem?_cons_succ] at n0 n1 n2 n3 n4 n5 n6 n7
 have HF5 := Lib.hid hF5
 clear hF5 hm5 hv5 HI
 dsimp only
 go_wp2
 go_light
 go_end0
 exact ⟨rfl, S5, HF5.out.wr, HF5.out.mvs⟩
theorem kid_plainD (z : Nd) (C : Option Addr) (cap : Nat) (least : Int) (base g pb : Nat) (S : Nat → Prop) (L : List Lex) (w : World) (ht : TreesAt w (fun b => ¬ S b) z.kids C) (h : WrAt w base g S L) (hb : base ≤ w.heap.size) (hp : w.cell? ⟨pb, 0, none⟩ = some (.pointer (some ⟨g, 0, none⟩))) (hnp : ¬ S pb) (hk1 : 1 ≤ z.kind) (hk9 : z.kind ≤ 9) (hW : WriteC z) (hl : L.length + z.write.length ≤ 90000000) (h1 : levelS z.kind < least) (h2 : ¬ 2 < least) (h3 : ¬ 0 < levelS z.kind) : Calls Tryz.prog 205 #[ndV z C cap, .int .i64 least, .pointer (some ⟨pb, 0, none⟩)] w (WrOut base g S w (L ++ z.write)) := by
 have hF1 := KFr.start #[.int .i64 z.kind, .int .u64 (word z.set.testBit 0), .int .u64 (word z.set.testBit 1), .int .u64 (word z.set.testBit 2), .int .u64 (word z.set.testBit 3), .slice C z.kids.len cap, .int .i64 z.lo, .int .i64 z.hi] h hb hp hnp
 have HL1 := Lib.hid (level_go z C cap (w.alloc (.cells #[.int .i64 z.kind, .int .u64 (word z.set.testBit 0), .int .u64 (word z.set.testBit 1), .int .u64 (word z.set.testBit 2), .int .u64 (word z.set.testBit 3), .slice C z.kids.len cap, .int .i64 z.lo, .int .i64 z.hi] 28)) hk1 hk9)
 have HLV := Lib.hid (fun (w' : World) => level_go z C cap w' hk1 hk9)
 have HF1 := Lib.hid hF1
 have HT := Lib.hid ht
 have HW := Lib.hid hW
 unfold ndV at HL1 HLV ⊢
 generalize levelS z.kind = lv at *
 clear hF1 ht hW h hp hnp hk1 hk9
 go_enter Tryz.func205, Tryz.ntmps205
 go_wp2_with fail
 refine HL1.out.mono ?_
 rintro e w2 ⟨rfl, hb2⟩
 have hF2 := HF1.out.below hb2
 have n0 := (hF2).x.cell 0
 have n1 := (hF2).x.cell 1
 have n2 := (hF2).x.cell 2
 have n3 := (hF2).x.cell 3
 have n4 := (hF2).x.cell 4
 have n5 := (hF2).x.cell 5
 have n6 := (hF2).x.cell 6
 have n7 := (hF2).x.cell 7
 have p0 := (hF2).p
 have hlx := (hF2).x.lt
 simp only [List.getElem?_toArray, List.getElem?_cons_zero, List.getElem?_cons_succ] at n0 n1 n2 n3 n4 n5 n6 n7
 have HF2 := Lib.hid hF2
 clear hF2 HF1 HL1 hb2
 dsimp only
 go_wp2_with fail
 refine (HLV.out _).mono ?_
 rintro e w3 ⟨rfl, hb3⟩
 have hF3 := HF2.out.below hb3
 clear n0 n1 n2 n3 n4 n5 n6 n7 p0 hlx
 have n0 := (hF3).x.cell 0
 have n1 := (hF3).x.cell 1
 have n2 := (hF3).x.cell 2
 have n3 := (hF3).x.cell 3
 have n4 := (hF3).x.cell 4
 have n5 := (hF3).x.cell 5
 have n6 := (hF3).x.cell 6
 have n7 := (hF3).x.cell 7
 have p0 := (hF3).p
 have hlx := (hF3).x.lt
 simp only [List.getElem?_toArray, List.getElem?_cons_zero, List.getElem?_cons_succ] at n0 n1 n2 n3 n4 n5 n6 n7
 have HF3 := Lib.hid hF3
 clear hF3 hb3 HF2
 dsimp only
 have HI := Lib.hid (HW.out C cap base g S L w3 (HT.out.movesW (HF3).out.mvs) (HF3).out.wr (HF3).out.size (by (try simp only [List.length_append, List.length_cons, List.length_nil]); omega))
 unfold ndV at HI
 go_wp2_with fail
 refine HI.out.mono ?_
 rintro e w5 ⟨rfl, S5, hm5, hv5⟩
 have hF5 := (HF3).out.go hm5 hv5
 clear n0 n1 n2 n3 n4 n5 n6 n7 p0 hlx
 have n0 := (hF5).x.cell 0
 have n1 := (hF5).x.cell 1
 have n2 := (hF5).x.cell 2
 have n3 := (hF5).x.cell 3
 have n4 := (hF5).x.cell 4
 have n5 := (hF5).x.cell 5
 have n6 := (hF5).x.cell 6
 have n7 := (hF5).x.cell 7
 have p0 := (hF5).p
 have hlx := (hF5).x.lt
 simp only [List.getElem?_toArray, List.getElem?_cons_zero, List.getElem?_cons_succ] at n0 n1 n2 n3 n4 n5 n6 n7
 have HF5 := Lib.hid hF5
 clear hF5 hm5 hv5 HI
 dsimp only
 go_wp2
 go_light
 go_end0
 exact ⟨rfl, S5, HF5.out.wr, HF5.out.mvs⟩
def leastS (p : Int) : Int := if p = 5 then 2 else 3
theorem kid_go (p : Int) (z : Nd) (C : Option Addr) (cap : Nat) (least : Int) (base g pb : Nat) (S : Nat → Prop) (L : List Lex) (w : World) (ht : TreesAt w (fun b => ¬ S b) z.kids C) (h : WrAt w base g S L) (hb : base ≤ w.heap.size) (hp : w.cell? ⟨pb, 0, none⟩ = some (.pointer (some ⟨g, 0, none⟩))) (hnp : ¬ S pb) (hk1 : 1 ≤ z.kind) (hk9 : z.kind ≤ 9) (hW : WriteC z) (hl : L.length + (kidS p (z.kind, z.write)).length ≤ 90000000) (hle : least = leastS p) : Calls Tryz.prog 205 #[ndV z C cap, .int .i64 least, .pointer (some ⟨pb, 0, none⟩)] w (WrOut base g S w (L ++ kidS p (z.kind, z.write))) := by
 have hlv : levelS z.kind = 0 ∧ z.kind = 2 ∨ levelS z.kind = 1 ∧ z.kind = 5 ∨ levelS z.kind = 2 ∧ z.kind = 4 ∨ levelS z.kind = 3 ∧ z.kind ≠ 2 ∧ z.kind ≠ 4 ∧ z.kind ≠ 5 := by
  unfold levelS
  repeat' split
  all_goals omega
 unfold leastS at hle
 unfold kidS at hl ⊢
 cases hb' : brS p z.kind with
 | true =>
  rw [if_pos rfl]
  rw [if_pos (show brS p (z.kind, z.write).1 = true from hb')] at hl
  simp only [List.length_cons, List.length_append, List.length_nil] at hl
  have hbr : z.kind = 5 ∨ p ≠ 5 ∧ (z.kind = 4 ∨ z.kind = 2) := by unfold brS at hb'; simpa using hb'
  split at hle
  ·exact kid_openB z C cap least base g pb S L w ht h hb hp hnp hk1 hk9 hW (by omega) (by omega) (by omega) (by omega)
  ·exact kid_openA z C cap least base g pb S L w ht h hb hp hnp hk1 hk9 hW (by omega) (by omega) (by omega)
 | false =>
  rw [if_neg (by decide)]
  rw [if_neg (show ¬ brS p (z.kind, z.write).1 = true from by rw [show brS p (z.kind, z.write).1 = false from hb']; decide)] at hl
  have hbr : z.kind ≠ 5 ∧ (p = 5 ∨ z.kind ≠ 4 ∧ z.kind ≠ 2) := by
   unfold brS at hb'
   simp at hb'
   refine ⟨hb'.1, ?_⟩
   by_cases hp5 : p = 5
   ·exact .inl hp5
   ·exact .inr (hb'.2 hp5)
  by_cases hlt : levelS z.kind < least
  ·split at hle
   ·exact kid_plainD z C cap least base g pb S L w ht h hb hp hnp hk1 hk9 hW hl hlt (by omega) (by omega)
   ·exact absurd hlt (by omega)
  ·exact kid_plainC z C cap least base g pb S L w ht h hb hp hnp hk1 hk9 hW hl hlt
end Go.Proofs.YtofbfafnpdaejaaGreatDoor
