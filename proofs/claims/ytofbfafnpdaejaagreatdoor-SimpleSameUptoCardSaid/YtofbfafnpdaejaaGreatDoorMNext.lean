/- Texts of the claim. -/
import Derived.Test.YtofbfafnpdaejaaGreatDoorMRepGo
import Derived.Test.YtofbfafnpdaejaaGreatDoorMCls
import Derived.Test.YtofbfafnpdaejaaGreatDoorMHow
import Derived.Test.YtofbfafnpdaejaaGreatDoorMHow3
import Derived.Test.YtofbfafnpdaejaaGreatDoorMZ03
set_option linter.all false
set_option maxRecDepth 100000
set_option maxHeartbeats 8000000
namespace Go.Proofs.YtofbfafnpdaejaaGreatDoor
open Go.RowKit
theorem Stepped.ret {S b o len cap N : Nat} {L : List Lex} {r : Except Wrong (Lex × Nat)} {W W' : World} {e : Ending} (h : Stepped S b o len cap N L r W e W') : e = .returned (.tuple #[]) := by
 cases r with
 | ok x => exact h.1
 | error x => exact h.1
theorem Stepped.from {S b o len cap N : Nat} {L : List Lex} {r : Except Wrong (Lex × Nat)} {W W0 W' : World} {e : Ending} (h : Stepped S b o len cap N L r W e W') (hb : Below N W0 W) : Stepped S b o len cap N L r W0 e W' := by
 cases r with
 | ok x => exact ⟨h.1, hb.trans h.2.1, h.2.2⟩
 | error x => exact ⟨h.1, hb.trans h.2.1, h.2.2⟩
theorem at_next {S b o len cap : Nat} {i c : Nat} {bs : List Nat} {v : Value} {N : Nat} {L : List Lex} {W : World} (hS : Spl W S b o len cap i v 0 0) (hrow : W.ownsRow N 143 8 v L.length (lexCells L)) (hN : N ≤ S) (hA : BytesAt W N (some ⟨b, o, none⟩) bs) :
  (((W.alloc (.cells #[.pointer (some ⟨S, 0, none⟩)] 209)).alloc (.cells #[.int .u8 (c : Int)] 5)).drew).cell? ⟨W.heap.size, 0, none⟩ = some (.pointer (some ⟨S, 0, none⟩)) ∧ (((W.alloc (.cells #[.pointer (some ⟨S, 0, none⟩)] 209)).alloc (.cells #[.int .u8 (c : Int)] 5)).drew).cell? ⟨W.heap.size + 1, 0, none⟩ = some (.int .u8 (c : Int)) ∧ Spl (((W.alloc (.cells #[.pointer (some ⟨S, 0, none⟩)] 209)).alloc (.cells #[.int .u8 (c : Int)] 5)).drew) S b o len cap i v 0 0 ∧
  (((W.alloc (.cells #[.pointer (some ⟨S, 0, none⟩)] 209)).alloc (.cells #[.int .u8 (c : Int)] 5)).drew).ownsRow N 143 8 v L.length (lexCells L) ∧ BytesAt (((W.alloc (.cells #[.pointer (some ⟨S, 0, none⟩)] 209)).alloc (.cells #[.int .u8 (c : Int)] 5)).drew) N (some ⟨b, o, none⟩) bs ∧ Below N W (((W.alloc (.cells #[.pointer (some ⟨S, 0, none⟩)] 209)).alloc (.cells #[.int .u8 (c : Int)] 5)).drew) ∧ Below N W ((W.alloc (.cells #[.pointer (some ⟨S, 0, none⟩)] 209)).alloc (.cells #[.int .u8 (c : Int)] 5)) := by
 have hlt := Blk.lt hS
 have hNW : N ≤ W.heap.size := by omega
 have hB := ((((Below.refl N W).alloc hNW (.cells #[.pointer (some ⟨S, 0, none⟩)] 209)).alloc (by simp; omega) (.cells #[.int .u8 (c : Int)] 5))).drew
 exact ⟨((Blk.new W 209 #[.pointer (some ⟨S, 0, none⟩)]).alloc _).cell 0, (Blk.new_at (cs := #[.int .u8 (c : Int)]) (by simp)).cell 0, Blk.drew (Blk.alloc (Blk.alloc hS _) _), (hrow.alloc _).alloc _, hA.below hB, hB, (((Below.refl N W).alloc hNW (.cells #[.pointer (some ⟨S, 0, none⟩)] 209)).alloc (by simp; omega) (.cells #[.int .u8 (c : Int)] 5))⟩
theorem next_dot (S b o cap : Nat) (bs : List Nat) (i : Nat) (v : Value) (N : Nat) (L : List Lex) (W : World) (hS : Spl W S b o bs.length cap i v 0 0) (hrow : W.ownsRow N 143 8 v L.length (lexCells L)) (hN : N ≤ S) (hL : L.length ≤ 100000)
  (hA : BytesAt W N (some ⟨b, o, none⟩) bs) (h0 : i < bs.length) (hcap : bs.length ≤ cap) (hlen : bs.length ≤ 65536) (h : byteAt bs i = 46) :
  Calls Tryz.prog 156 #[.pointer (some ⟨S, 0, none⟩)] W (Stepped S b o bs.length cap N L (lexS bs i) W) := by
 obtain ⟨s0, s1, s2, s3, s4, f0, f1, f2, f3, f4⟩ := hS.cells
 have hlt := Blk.lt hS
 have hcell := bytesAt_cells hA i h0
 have hl := hA.2.1
 have hbl : b < W.heap.size := World.block_lt_of_cell? W _ hcell
 have n1 : b ≠ W.heap.size := Nat.ne_of_lt hbl
 have n2 : b ≠ W.heap.size + 1 := by omega
 have n3 : S ≠ W.heap.size := Nat.ne_of_lt hlt
 have hd : (i : Int) < (bs.length : Int) := by omega
 have H := Lib.hid (at_next (c := 46) hS hrow hN hA)
 rw [h] at hcell
 clear hA hS hrow
 go_enter Tryz.func156, Tryz.ntmps156
 go_wp2
 go_region
 go_wp2_with fail
 refine Calls.mono (R := Stepped S b o bs.length cap N L (lexS bs i) (((W.alloc (.cells #[.pointer (some ⟨S, 0, none⟩)] 209)).alloc (.cells #[.int .u8 46] 5)).drew)) (by rw [lexS_dot h]; exact next1_go _ S b o bs.length cap i v N L _ H.out.1 H.out.2.2.1 H.out.2.2.2.1 hN hL (by omega)) ?_
 intro e w1 hs
 obtain rfl := hs.ret
 have HS1 := Lib.hid (hs.from H.out.2.2.2.2.2.1)
 clear hs
 go_wp2
 go_end0
 exact HS1.out
theorem next_esc (S b o cap : Nat) (bs : List Nat) (i : Nat) (v : Value) (N : Nat) (L : List Lex) (W : World) (hS : Spl W S b o bs.length cap i v 0 0) (hrow : W.ownsRow N 143 8 v L.length (lexCells L)) (hN : N ≤ S) (hL : L.length ≤ 100000)
  (hA : BytesAt W N (some ⟨b, o, none⟩) bs) (h0 : i < bs.length) (hcap : bs.length ≤ cap) (hlen : bs.length ≤ 65536) (h : byteAt bs i = 92) :
  Calls Tryz.prog 156 #[.pointer (some ⟨S, 0, none⟩)] W (Stepped S b o bs.length cap N L (lexS bs i) W) := by
 obtain ⟨s0, s1, s2, s3, s4, f0, f1, f2, f3, f4⟩ := hS.cells
 have hlt := Blk.lt hS
 have hcell := bytesAt_cells hA i h0
 have hl := hA.2.1
 have hbl : b < W.heap.size := World.block_lt_of_cell? W _ hcell
 have n1 : b ≠ W.heap.size := Nat.ne_of_lt hbl
 have n2 : b ≠ W.heap.size + 1 := by omega
 have n3 : S ≠ W.heap.size := Nat.ne_of_lt hlt
 have hd : (i : Int) < (bs.length : Int) := by omega
 have H := Lib.hid (at_next (c := 92) hS hrow hN hA)
 rw [h] at hcell
 clear hA hS hrow
 cases he : escS bs i with
 | none =>
  go_enter Tryz.func156, Tryz.ntmps156
  go_wp2
  go_region
  go_wp2_with fail
  refine Calls.mono (R := Stepped S b o bs.length cap N L (lexS bs i) (((W.alloc (.cells #[.pointer (some ⟨S, 0, none⟩)] 209)).alloc (.cells #[.int .u8 92] 5)).drew)) (by rw [lexS_esc_no h he]; exact sescape_bad S b o cap bs i v N L _ H.out.2.2.1 H.out.2.2.2.1 hN hL H.out.2.2.2.2.1 h0 h he) ?_
  intro e w1 hs
  obtain rfl := hs.ret
  have HS1 := Lib.hid (hs.from H.out.2.2.2.2.2.1)
  clear hs
  go_wp2
  go_end0
  exact HS1.out
 | some x =>
  obtain ⟨c, j⟩ := x
  go_enter Tryz.func156, Tryz.ntmps156
  go_wp2
  go_region
  go_wp2_with fail
  refine Calls.mono (R := Stepped S b o bs.length cap N L (lexS bs i) (((W.alloc (.cells #[.pointer (some ⟨S, 0, none⟩)] 209)).alloc (.cells #[.int .u8 92] 5)).drew)) (by rw [lexS_esc h he]; exact sescape_ok S b o cap bs i c j v N L _ H.out.2.2.1 H.out.2.2.2.1 hN hL H.out.2.2.2.2.1 h0 h he) ?_
  intro e w1 hs
  obtain rfl := hs.ret
  have HS1 := Lib.hid (hs.from H.out.2.2.2.2.2.1)
  clear hs
  go_wp2
  go_end0
  exact HS1.out
theorem next_class (S b o cap : Nat) (bs : List Nat) (i : Nat) (v : Value) (N : Nat) (L : List Lex) (W : World) (hS : Spl W S b o bs.length cap i v 0 0) (hrow : W.ownsRow N 143 8 v L.length (lexCells L)) (hN : N ≤ S) (hL : L.length ≤ 100000)
  (hA : BytesAt W N (some ⟨b, o, none⟩) bs) (h0 : i < bs.length) (hcap : bs.length ≤ cap) (hlen : bs.length ≤ 65536) (h : byteAt bs i = 91) :
  Calls Tryz.prog 156 #[.pointer (some ⟨S, 0, none⟩)] W (Stepped S b o bs.length cap N L (lexS bs i) W) := by
 have hb := hA.1
 obtain ⟨s0, s1, s2, s3, s4, f0, f1, f2, f3, f4⟩ := hS.cells
 have hlt := Blk.lt hS
 have hcell := bytesAt_cells hA i h0
 have hl := hA.2.1
 have hbl : b < W.heap.size := World.block_lt_of_cell? W _ hcell
 have n1 : b ≠ W.heap.size := Nat.ne_of_lt hbl
 have n2 : b ≠ W.heap.size + 1 := by omega
 have n3 : S ≠ W.heap.size := Nat.ne_of_lt hlt
 have hd : (i : Int) < (bs.length : Int) := by omega
 have H := Lib.hid (at_next (c := 91) hS hrow hN hA)
 rw [h] at hcell
 clear hA hS hrow
 cases he : readS bs (i : Int) with
 | error e =>
  obtain ⟨k, q⟩ := e
  have hk0 := readS_err hb he
  go_enter Tryz.func156, Tryz.ntmps156
  go_wp2
  go_region
  go_wp2_with fail
  refine Calls.mono (R := Stepped S b o bs.length cap N L (lexS bs i) (((W.alloc (.cells #[.pointer (some ⟨S, 0, none⟩)] 209)).alloc (.cells #[.int .u8 91] 5)).drew)) (by rw [lexS_class_no h he]; exact sclass_bad S b o cap bs i k q v N L _ H.out.2.2.1 H.out.2.2.2.1 hN hL H.out.2.2.2.2.1 he hk0) ?_
  intro e w1 hs
  obtain rfl := hs.ret
  have HS1 := Lib.hid (hs.from H.out.2.2.2.2.2.1)
  clear hs
  go_wp2
  go_end0
  exact HS1.out
 | ok x =>
  obtain ⟨p, j⟩ := x
  go_enter Tryz.func156, Tryz.ntmps156
  go_wp2
  go_region
  go_wp2_with fail
  refine Calls.mono (R := Stepped S b o bs.length cap N L (lexS bs i) (((W.alloc (.cells #[.pointer (some ⟨S, 0, none⟩)] 209)).alloc (.cells #[.int .u8 91] 5)).drew)) (by rw [lexS_class h he]; exact sclass_ok S b o cap bs i p j v N L _ H.out.2.2.1 H.out.2.2.2.1 hN hL H.out.2.2.2.2.1 he) ?_
  intro e w1 hs
  obtain rfl := hs.ret
  have HS1 := Lib.hid (hs.from H.out.2.2.2.2.2.1)
  clear hs
  go_wp2
  go_end0
  exact HS1.out
theorem next_rep (S b o cap : Nat) (bs : List Nat) (i : Nat) (v : Value) (N : Nat) (L : List Lex) (W : World) (hS : Spl W S b o bs.length cap i v 0 0) (hrow : W.ownsRow N 143 8 v L.length (lexCells L)) (hN : N ≤ S) (hL : L.length ≤ 100000)
  (hA : BytesAt W N (some ⟨b, o, none⟩) bs) (h0 : i < bs.length) (hcap : bs.length ≤ cap) (hlen : bs.length ≤ 65536) (h : byteAt bs i = 123) :
  Calls Tryz.prog 156 #[.pointer (some ⟨S, 0, none⟩)] W (Stepped S b o bs.length cap N L (lexS bs i) W) := by
 obtain ⟨s0, s1, s2, s3, s4, f0, f1, f2, f3, f4⟩ := hS.cells
 have hlt := Blk.lt hS
 have hcell := bytesAt_cells hA i h0
 have hl := hA.2.1
 have hbl : b < W.heap.size := World.block_lt_of_cell? W _ hcell
 have n1 : b ≠ W.heap.size := Nat.ne_of_lt hbl
 have n2 : b ≠ W.heap.size + 1 := by omega
 have n3 : S ≠ W.heap.size := Nat.ne_of_lt hlt
 have hd : (i : Int) < (bs.length : Int) := by omega
 have H := Lib.hid (at_next (c := 123) hS hrow hN hA)
 rw [h] at hcell
 clear hA hS hrow
 go_enter Tryz.func156, Tryz.ntmps156
 go_wp2
 go_region
 go_wp2_with fail
 refine Calls.mono (R := Stepped S b o bs.length cap N L (lexS bs i) (((W.alloc (.cells #[.pointer (some ⟨S, 0, none⟩)] 209)).alloc (.cells #[.int .u8 123] 5)).drew)) (by rw [lexS_rep h]; exact srep_go S b o cap bs i v N L _ H.out.2.2.1 H.out.2.2.2.1 hN hL H.out.2.2.2.2.1 h0 hcap hlen) ?_
 intro e w1 hs
 obtain rfl := hs.ret
 have HS1 := Lib.hid (hs.from H.out.2.2.2.2.2.1)
 clear hs
 go_wp2
 go_end0
 exact HS1.out
theorem next_form (S b o cap : Nat) (bs : List Nat) (i : Nat) (v : Value) (N : Nat) (L : List Lex) (W : World) (hS : Spl W S b o bs.length cap i v 0 0) (hrow : W.ownsRow N 143 8 v L.length (lexCells L)) (hN : N ≤ S) (hL : L.length ≤ 100000)
  (hA : BytesAt W N (some ⟨b, o, none⟩) bs) (h0 : i < bs.length) (hcap : bs.length ≤ cap) (hlen : bs.length ≤ 65536) (h : byteAt bs i = 93 ∨ byteAt bs i = 125 ∨ byteAt bs i = 10) :
  Calls Tryz.prog 156 #[.pointer (some ⟨S, 0, none⟩)] W (Stepped S b o bs.length cap N L (lexS bs i) W) := by
 have hr := lexS_form h
 rcases h with h | h | h
 ·
  obtain ⟨s0, s1, s2, s3, s4, f0, f1, f2, f3, f4⟩ := hS.cells
  have hlt := Blk.lt hS
  have hcell := bytesAt_cells hA i h0
  have hl := hA.2.1
  have hbl : b < W.heap.size := World.block_lt_of_cell? W _ hcell
  have n1 : b ≠ W.heap.size := Nat.ne_of_lt hbl
  have n2 : b ≠ W.heap.size + 1 := by omega
  have n3 : S ≠ W.heap.size := Nat.ne_of_lt hlt
  have hd : (i : Int) < (bs.length : Int) := by omega
  have H := Lib.hid (at_next (c := 93) hS hrow hN hA)
  rw [h] at hcell
  clear hA hS hrow
  go_enter Tryz.func156, Tryz.ntmps156
  go_wp2
  go_region
  go_wp2_with fail
  refine Calls.mono (R := Stepped S b o bs.length cap N L (lexS bs i) (((W.alloc (.cells #[.pointer (some ⟨S, 0, none⟩)] 209)).alloc (.cells #[.int .u8 93] 5)).drew)) (by rw [hr]; exact (next2_go W.heap.size S b o bs.length cap i v N _ H.out.1 H.out.2.2.1 hN).mono (fun e w hh => ⟨hh.1, hh.2.1, _, _, hh.2.2⟩)) ?_
  intro e w1 hs
  obtain rfl := hs.ret
  have HS1 := Lib.hid (hs.from H.out.2.2.2.2.2.1)
  clear hs
  go_wp2
  go_end0
  exact HS1.out
 ·
  obtain ⟨s0, s1, s2, s3, s4, f0, f1, f2, f3, f4⟩ := hS.cells
  have hlt := Blk.lt hS
  have hcell := bytesAt_cells hA i h0
  have hl := hA.2.1
  have hbl : b < W.heap.size := World.block_lt_of_cell? W _ hcell
  have n1 : b ≠ W.heap.size := Nat.ne_of_lt hbl
  have n2 : b ≠ W.heap.size + 1 := by omega
  have n3 : S ≠ W.heap.size := Nat.ne_of_lt hlt
  have hd : (i : Int) < (bs.length : Int) := by omega
  have H := Lib.hid (at_next (c := 125) hS hrow hN hA)
  rw [h] at hcell
  clear hA hS hrow
  go_enter Tryz.func156, Tryz.ntmps156
  go_wp2
  go_region
  go_wp2_with fail
  refine Calls.mono (R := Stepped S b o bs.length cap N L (lexS bs i) (((W.alloc (.cells #[.pointer (some ⟨S, 0, none⟩)] 209)).alloc (.cells #[.int .u8 125] 5)).drew)) (by rw [hr]; exact (next2_go W.heap.size S b o bs.length cap i v N _ H.out.1 H.out.2.2.1 hN).mono (fun e w hh => ⟨hh.1, hh.2.1, _, _, hh.2.2⟩)) ?_
  intro e w1 hs
  obtain rfl := hs.ret
  have HS1 := Lib.hid (hs.from H.out.2.2.2.2.2.1)
  clear hs
  go_wp2
  go_end0
  exact HS1.out
 ·
  obtain ⟨s0, s1, s2, s3, s4, f0, f1, f2, f3, f4⟩ := hS.cells
  have hlt := Blk.lt hS
  have hcell := bytesAt_cells hA i h0
  have hl := hA.2.1
  have hbl : b < W.heap.size := World.block_lt_of_cell? W _ hcell
  have n1 : b ≠ W.heap.size := Nat.ne_of_lt hbl
  have n2 : b ≠ W.heap.size + 1 := by omega
  have n3 : S ≠ W.heap.size := Nat.ne_of_lt hlt
  have hd : (i : Int) < (bs.length : Int) := by omega
  have H := Lib.hid (at_next (c := 10) hS hrow hN hA)
  rw [h] at hcell
  clear hA hS hrow
  go_enter Tryz.func156, Tryz.ntmps156
  go_wp2
  go_region
  go_wp2_with fail
  refine Calls.mono (R := Stepped S b o bs.length cap N L (lexS bs i) (((W.alloc (.cells #[.pointer (some ⟨S, 0, none⟩)] 209)).alloc (.cells #[.int .u8 10] 5)).drew)) (by rw [hr]; exact (next2_go W.heap.size S b o bs.length cap i v N _ H.out.1 H.out.2.2.1 hN).mono (fun e w hh => ⟨hh.1, hh.2.1, _, _, hh.2.2⟩)) ?_
  intro e w1 hs
  obtain rfl := hs.ret
  have HS1 := Lib.hid (hs.from H.out.2.2.2.2.2.1)
  clear hs
  go_wp2
  go_end0
  exact HS1.out
theorem next_own (S b o cap : Nat) (bs : List Nat) (i : Nat) (v : Value) (N : Nat) (L : List Lex) (W : World) (hS : Spl W S b o bs.length cap i v 0 0) (hrow : W.ownsRow N 143 8 v L.length (lexCells L)) (hN : N ≤ S) (hL : L.length ≤ 100000)
  (hA : BytesAt W N (some ⟨b, o, none⟩) bs) (h0 : i < bs.length) (hcap : bs.length ≤ cap) (hlen : bs.length ≤ 65536) (hC : Common (byteAt bs i)) (hk : signKind (byteAt bs i) = 0) :
  Calls Tryz.prog 156 #[.pointer (some ⟨S, 0, none⟩)] W (Stepped S b o bs.length cap N L (lexS bs i) W) := by
 have hb := hA.1
 have hr := Lib.hid (lexS_own hC hk)
 obtain ⟨s0, s1, s2, s3, s4, f0, f1, f2, f3, f4⟩ := hS.cells
 have hlt := Blk.lt hS
 have hcell := bytesAt_cells hA i h0
 have hl := hA.2.1
 have hbl : b < W.heap.size := World.block_lt_of_cell? W _ hcell
 have n1 : b ≠ W.heap.size := Nat.ne_of_lt hbl
 have n2 : b ≠ W.heap.size + 1 := by omega
 have n3 : S ≠ W.heap.size := Nat.ne_of_lt hlt
 have hd : (i : Int) < (bs.length : Int) := by omega
 have H := Lib.hid (at_next (c := byteAt bs i) hS hrow hN hA)
 have Hs := Lib.hid (sign_no S b o cap bs i v N _ H.out.2.2.1 H.out.2.2.2.2.1 h0 hk)
 clear hA hS hrow hk
 obtain ⟨h1, h2, h3, h4, h5, h6, h7⟩ := hC
 have hc256 := byteAt_lt hb i
 generalize byteAt bs i = c at *
 have b1 : ((c : Int) == 46) = false := by simp; omega
 have b2 : ((c : Int) == 92) = false := by simp; omega
 have b3 : ((c : Int) == 91) = false := by simp; omega
 have b4 : ((c : Int) == 123) = false := by simp; omega
 have b5 : ((c : Int) == 93) = false := by simp; omega
 have b6 : ((c : Int) == 125) = false := by simp; omega
 have b7 : ((c : Int) == 10) = false := by simp; omega
 clear h1 h2 h3 h4 h5 h6 h7
 go_enter Tryz.func156, Tryz.ntmps156
 go_wp2
 go_region
 go_wp2_with fail
 refine Hs.out.mono ?_
 rintro e w1 ⟨rfl, n, rfl⟩
 go_wp2_with fail
 refine Calls.mono (R := Stepped S b o bs.length cap N L (lexS bs i) (((W.alloc (.cells #[.pointer (some ⟨S, 0, none⟩)] 209)).alloc (.cells #[.int .u8 (c : Int)] 5)).drewN (1 + n))) (by rw [hr.out]; exact next3_go W.heap.size (W.heap.size + 1) S b o bs.length cap i c v N L (((W.alloc (.cells #[.pointer (some ⟨S, 0, none⟩)] 209)).alloc (.cells #[.int .u8 (c : Int)] 5)).drewN (1 + n)) H.out.1 H.out.2.1 (Blk.drewN (w := ((W.alloc (.cells #[.pointer (some ⟨S, 0, none⟩)] 209)).alloc (.cells #[.int .u8 (c : Int)] 5))) H.out.2.2.1 (1 + n)) H.out.2.2.2.1 hN hL (by omega) hc256) ?_
 intro e w1 hs
 obtain rfl := hs.ret
 have HS1 := Lib.hid (hs.from (bel_drewN H.out.2.2.2.2.2.2 (1 + n)))
 clear hs
 go_wp2
 go_end0
 exact HS1.out
theorem next_sign (S b o cap : Nat) (bs : List Nat) (i : Nat) (v : Value) (N : Nat) (L : List Lex) (W : World) (hS : Spl W S b o bs.length cap i v 0 0) (hrow : W.ownsRow N 143 8 v L.length (lexCells L)) (hN : N ≤ S) (hL : L.length ≤ 100000)
  (hA : BytesAt W N (some ⟨b, o, none⟩) bs) (h0 : i < bs.length) (hcap : bs.length ≤ cap) (hlen : bs.length ≤ 65536) (hC : Common (byteAt bs i)) (hk : signKind (byteAt bs i) ≠ 0) :
  Calls Tryz.prog 156 #[.pointer (some ⟨S, 0, none⟩)] W (Stepped S b o bs.length cap N L (lexS bs i) W) := by
 have hb := hA.1
 have hr := Lib.hid (lexS_sign hC hk)
 obtain ⟨s0, s1, s2, s3, s4, f0, f1, f2, f3, f4⟩ := hS.cells
 have hlt := Blk.lt hS
 have hcell := bytesAt_cells hA i h0
 have hl := hA.2.1
 have hbl : b < W.heap.size := World.block_lt_of_cell? W _ hcell
 have n1 : b ≠ W.heap.size := Nat.ne_of_lt hbl
 have n2 : b ≠ W.heap.size + 1 := by omega
 have n3 : S ≠ W.heap.size := Nat.ne_of_lt hlt
 have hd : (i : Int) < (bs.length : Int) := by omega
 have H := Lib.hid (at_next (c := byteAt bs i) hS hrow hN hA)
 have Hs := Lib.hid (sign_yes S b o cap bs i v N L _ H.out.2.2.1 H.out.2.2.2.1 hN hL H.out.2.2.2.2.1 h0 hk)
 clear hA hS hrow hk
 obtain ⟨h1, h2, h3, h4, h5, h6, h7⟩ := hC
 have hc256 := byteAt_lt hb i
 generalize byteAt bs i = c at *
 have b1 : ((c : Int) == 46) = false := by simp; omega
 have b2 : ((c : Int) == 92) = false := by simp; omega
 have b3 : ((c : Int) == 91) = false := by simp; omega
 have b4 : ((c : Int) == 123) = false := by simp; omega
 have b5 : ((c : Int) == 93) = false := by simp; omega
 have b6 : ((c : Int) == 125) = false := by simp; omega
 have b7 : ((c : Int) == 10) = false := by simp; omega
 clear h1 h2 h3 h4 h5 h6 h7
 go_enter Tryz.func156, Tryz.ntmps156
 go_wp2
 go_region
 go_wp2_with fail
 refine Hs.out.mono ?_
 rintro e w1 ⟨rfl, hb1, hv1⟩
 have HB1 := Lib.hid (H.out.2.2.2.2.2.1.trans hb1)
 have HV1 := Lib.hid hv1
 clear hb1 hv1
 go_wp2
 go_end0
 rw [hr.out]
 exact ⟨rfl, HB1.out, HV1.out⟩
theorem next_go (S b o cap : Nat) (bs : List Nat) (i : Nat) (v : Value) (N : Nat) (L : List Lex) (W : World) (hS : Spl W S b o bs.length cap i v 0 0) (hrow : W.ownsRow N 143 8 v L.length (lexCells L)) (hN : N ≤ S) (hL : L.length ≤ 100000)
  (hA : BytesAt W N (some ⟨b, o, none⟩) bs) (h0 : i < bs.length) (hcap : bs.length ≤ cap) (hlen : bs.length ≤ 65536) :
  Calls Tryz.prog 156 #[.pointer (some ⟨S, 0, none⟩)] W (Stepped S b o bs.length cap N L (lexS bs i) W) := by
 by_cases h1 : byteAt bs i = 46
 ·exact next_dot S b o cap bs i v N L W hS hrow hN hL hA h0 hcap hlen h1
 by_cases h2 : byteAt bs i = 92
 ·exact next_esc S b o cap bs i v N L W hS hrow hN hL hA h0 hcap hlen h2
 by_cases h3 : byteAt bs i = 91
 ·exact next_class S b o cap bs i v N L W hS hrow hN hL hA h0 hcap hlen h3
 by_cases h4 : byteAt bs i = 123
 ·exact next_rep S b o cap bs i v N L W hS hrow hN hL hA h0 hcap hlen h4
 by_cases h5 : byteAt bs i = 93 ∨ byteAt bs i = 125 ∨ byteAt bs i = 10
 ·exact next_form S b o cap bs i v N L W hS hrow hN hL hA h0 hcap hlen h5
 have hC : Common (byteAt bs i) := ⟨h1, h2, h3, h4, fun e => h5 (Or.inl e), fun e => h5 (Or.inr (Or.inl e)), fun e => h5 (Or.inr (Or.inr e))⟩
 by_cases h6 : signKind (byteAt bs i) = 0
 ·exact next_own S b o cap bs i v N L W hS hrow hN hL hA h0 hcap hlen hC h6
 ·exact next_sign S b o cap bs i v N L W hS hrow hN hL hA h0 hcap hlen hC h6
end Go.Proofs.YtofbfafnpdaejaaGreatDoor
