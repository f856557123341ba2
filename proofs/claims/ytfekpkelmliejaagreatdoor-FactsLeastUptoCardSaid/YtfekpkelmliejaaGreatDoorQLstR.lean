/-
  The reference of chapter 10: least, small, Least; and facts.Least.
-/
import Derived.Test.YtfekpkelmliejaaGreatDoorQLstP
import Derived.Test.YtfekpkelmliejaaGreatDoorQZ05
import Derived.Test.YtfekpkelmliejaaGreatDoorQRRightX
namespace Go.Proofs.YtfekpkelmliejaaGreatDoor
open Go.RowKit
set_option linter.unusedSimpArgs false
set_option linter.unusedVariables false
set_option maxRecDepth 100000

theorem elems_first {p : Nat → Bool} {c0 : Nat} {l : List Nat} (h : elems p 256 = c0 :: l) : p c0 = true ∧ c0 < 256 ∧ ∀ c, c < c0 → p c = false := by
  have hm : c0 ∈ elems p 256 := by rw [h]; simp
  have h1 : p c0 = true := by unfold elems at hm; exact (List.mem_filter.1 hm).2
  have h2 : c0 < 256 := elems_lt hm
  refine ⟨h1, h2, fun c hc => ?_⟩
  cases hp : p c with
  | false => rfl
  | true =>
    exfalso
    obtain ⟨r, hr⟩ := elems_pre p (m := c0) (M := 256) (by omega)
    have hcm : c ∈ elems p c0 := by unfold elems; rw [List.mem_filter]; exact ⟨by rw [List.mem_range]; exact hc, hp⟩
    cases he : elems p c0 with
    | nil => rw [he] at hcm; cases hcm
    | cons a q =>
      rw [h, he, List.cons_append] at hr
      have : a = c0 := (List.cons.inj hr).1.symm
      have h3 : a < c0 := elems_lt (p := p) (m := c0) (by rw [he]; simp)
      omega
set_option maxHeartbeats 1000000 in
theorem rleasts_go (p : Nat → Bool) (c0 : Nat) (l : List Nat) (hp : elems p 256 = c0 :: l) (w : World) :
    Calls Tryz.prog 109 #[.agg #[.int .u64 ((word (p) 0 : Nat) : Int), .int .u64 ((word (p) 1 : Nat) : Int), .int .u64 ((word (p) 2 : Nat) : Int), .int .u64 ((word (p) 3 : Nat) : Int)]] w fun e W' => e = .returned (.int .i64 (c0 : Int)) ∧ Below w.heap.size w W' := by
  obtain ⟨h1, h2, h3⟩ := elems_first hp
  have H1 := Lib.hid h1
  have H3 := Lib.hid h3
  clear h1 h3 hp
  go_enter Tryz.func109, Tryz.ntmps109
  go_wp2
  go_loopw [3] (fun v wr => ∃ c : Nat, v = .int .i64 (c : Int) ∧ c ≤ c0 ∧ Hid (Blk wr w.heap.size 25 #[.int .u64 ((word (p) 0 : Nat) : Int), .int .u64 ((word (p) 1 : Nat) : Int), .int .u64 ((word (p) 2 : Nat) : Int), .int .u64 ((word (p) 3 : Nat) : Int)]) ∧ Hid (Below w.heap.size w wr)) (fun v _ => 256 - (intOf v).toNat)
  case atStart => exact ⟨0, rfl, Nat.zero_le _, Lib.hid (Blk.new _ _ _), Lib.hid ((Below.refl _ _).alloc (Nat.le_refl _) _)⟩
  case round =>
    obtain ⟨c, rfl, hc, HS, HB⟩ := hrel
    obtain ⟨s0, s1, s2, s3, f0, f1, f2, f3⟩ := HS.out.c4
    have hlt : (c : Int) < 256 := by omega
    cases hx : p c with
    | true =>
      obtain rfl : c = c0 := by
        rcases Nat.lt_or_ge c c0 with h | h
        · rw [H3.out c h] at hx; cases hx
        · omega
      have HX := Lib.hid (show p (c : Int).toNat = true by simpa using hx)
      clear hx
      go_wp2_with fail
      refine (rhas_any _ _ _ (by omega) (by omega)).mono ?_
      rintro e w1 ⟨rfl, hb1⟩
      have HB1 := Lib.hid (HB.out.trans (hb1.mono HB.out.size))
      rw [HX.out]
      clear hb1 s0 s1 s2 s3 f0 f1 f2 f3
      dsimp only
      go_wp2
      go_light
      go_ret
      exact ⟨rfl, HB1.out⟩
    | false =>
      have hcc : c < c0 := by
        rcases Nat.lt_or_ge c c0 with h | h
        · exact h
        · obtain rfl : c = c0 := by omega
          rw [H1.out] at hx; cases hx
      have HX := Lib.hid (show p (c : Int).toNat = false by simpa using hx)
      clear hx
      go_wp2_with fail
      refine (rhas_any _ _ _ (by omega) (by omega)).mono ?_
      rintro e w1 ⟨rfl, hb1⟩
      have HB1 := Lib.hid (HB.out.trans (hb1.mono HB.out.size))
      have HS1 := Lib.hid (HS.out.below hb1 HS.out.lt)
      rw [HX.out]
      clear hb1 s0 s1 s2 s3 f0 f1 f2 f3
      dsimp only
      go_wp2
      go_light
      go_roundw
      case rel => exact ⟨c + 1, by go_num, by omega, HS1, HB1⟩
      case measure => simp [intOf]; omega
/-- The node's box, and the empty word behind it. -/
def KidRl (F : Trees) (P : Nat → Prop) (w0 : World) : Prop := ∀ (i : Nat) (z : Nd) (C : Option Addr) (capc : Nat) (W : World), F.list[i]? = some z → z.sum.hollow = false → Below w0.heap.size w0 W → TreesAt W P z.kids C →
  Calls Tryz.prog 65 #[ndV z C capc] W (WordOut z.least W)
theorem KidRl.later {F : Trees} {P : Nat → Prop} {w w2 : World} (h : KidRl F P w) (hb : Below w.heap.size w w2) : KidRl F P w2 := fun i z C capc W hz h1 hW ht => h i z C capc W hz h1 (hb.trans (hW.mono hb.size)) ht
theorem empty_word {w w' : World} (g : Nat) (cap : Nat) (hb : Below w.heap.size w w') : WordOut [] w (.returned (.slice (some ⟨g, 0, none⟩) 0 cap)) w' := ⟨some ⟨g, 0, none⟩, cap, rfl, ⟨(fun c hc => by cases hc), Nat.zero_le _, (fun h => absurd h (by decide))⟩, hb, (fun h => absurd h (by decide))⟩
set_option maxHeartbeats 2000000 in
theorem rl_nil2 (x : Nd) (hk : x.kind = 2) (B : Option Addr) (cap : Nat) (w : World) :
    Calls Tryz.prog 65 #[ndV x B cap] w (WordOut [] w) := by
  have hb : Below w.heap.size w ((w.alloc (.cells #[.int .i64 x.kind, .int .u64 ((word (x.set.testBit) 0 : Nat) : Int), .int .u64 ((word (x.set.testBit) 1 : Nat) : Int), .int .u64 ((word (x.set.testBit) 2 : Nat) : Int), .int .u64 ((word (x.set.testBit) 3 : Nat) : Int), .slice B x.kids.len cap, .int .i64 x.lo, .int .i64 x.hi] 28)).alloc (.cells #[] 5)) := ((Below.refl _ _).alloc (Nat.le_refl _) _).alloc (by simp) _
  have HB := Lib.hid hb
  have HN := Lib.hid ((Blk.new w 28 #[.int .i64 x.kind, .int .u64 ((word (x.set.testBit) 0 : Nat) : Int), .int .u64 ((word (x.set.testBit) 1 : Nat) : Int), .int .u64 ((word (x.set.testBit) 2 : Nat) : Int), .int .u64 ((word (x.set.testBit) 3 : Nat) : Int), .slice B x.kids.len cap, .int .i64 x.lo, .int .i64 x.hi]).alloc (.cells #[] 5))
  have HE := Lib.hid (show Blk ((w.alloc (.cells #[.int .i64 x.kind, .int .u64 ((word (x.set.testBit) 0 : Nat) : Int), .int .u64 ((word (x.set.testBit) 1 : Nat) : Int), .int .u64 ((word (x.set.testBit) 2 : Nat) : Int), .int .u64 ((word (x.set.testBit) 3 : Nat) : Int), .slice B x.kids.len cap, .int .i64 x.lo, .int .i64 x.hi] 28)).alloc (.cells #[] 5)) (w.heap.size + 1) 5 #[] from Blk.new_at (by simp))
  clear hb
  unfold ndV
  rw [hk] at HN HB HE ⊢
  go_enter Tryz.func65, Tryz.ntmps65
  go_upto_region 2 with fail
  generalize ((w.alloc (.cells #[.int .i64 2, .int .u64 ((word (x.set.testBit) 0 : Nat) : Int), .int .u64 ((word (x.set.testBit) 1 : Nat) : Int), .int .u64 ((word (x.set.testBit) 2 : Nat) : Int), .int .u64 ((word (x.set.testBit) 3 : Nat) : Int), .slice B x.kids.len cap, .int .i64 x.lo, .int .i64 x.hi] 28)).alloc (.cells #[] 5)) = w2 at *
  obtain ⟨n0, n1, n2, n3, n4, n5, n6, n7⟩ := ((HN.out)).c8r
  have hln := (HN.out).lt
  go_wp2
  go_light
  go_ret
  exact empty_word _ _ HB.out
set_option maxHeartbeats 2000000 in
theorem rl_nil6 (x : Nd) (hk : x.kind = 6) (B : Option Addr) (cap : Nat) (w : World) :
    Calls Tryz.prog 65 #[ndV x B cap] w (WordOut [] w) := by
  have hb : Below w.heap.size w ((w.alloc (.cells #[.int .i64 x.kind, .int .u64 ((word (x.set.testBit) 0 : Nat) : Int), .int .u64 ((word (x.set.testBit) 1 : Nat) : Int), .int .u64 ((word (x.set.testBit) 2 : Nat) : Int), .int .u64 ((word (x.set.testBit) 3 : Nat) : Int), .slice B x.kids.len cap, .int .i64 x.lo, .int .i64 x.hi] 28)).alloc (.cells #[] 5)) := ((Below.refl _ _).alloc (Nat.le_refl _) _).alloc (by simp) _
  have HB := Lib.hid hb
  have HN := Lib.hid ((Blk.new w 28 #[.int .i64 x.kind, .int .u64 ((word (x.set.testBit) 0 : Nat) : Int), .int .u64 ((word (x.set.testBit) 1 : Nat) : Int), .int .u64 ((word (x.set.testBit) 2 : Nat) : Int), .int .u64 ((word (x.set.testBit) 3 : Nat) : Int), .slice B x.kids.len cap, .int .i64 x.lo, .int .i64 x.hi]).alloc (.cells #[] 5))
  have HE := Lib.hid (show Blk ((w.alloc (.cells #[.int .i64 x.kind, .int .u64 ((word (x.set.testBit) 0 : Nat) : Int), .int .u64 ((word (x.set.testBit) 1 : Nat) : Int), .int .u64 ((word (x.set.testBit) 2 : Nat) : Int), .int .u64 ((word (x.set.testBit) 3 : Nat) : Int), .slice B x.kids.len cap, .int .i64 x.lo, .int .i64 x.hi] 28)).alloc (.cells #[] 5)) (w.heap.size + 1) 5 #[] from Blk.new_at (by simp))
  clear hb
  unfold ndV
  rw [hk] at HN HB HE ⊢
  go_enter Tryz.func65, Tryz.ntmps65
  go_upto_region 2 with fail
  generalize ((w.alloc (.cells #[.int .i64 6, .int .u64 ((word (x.set.testBit) 0 : Nat) : Int), .int .u64 ((word (x.set.testBit) 1 : Nat) : Int), .int .u64 ((word (x.set.testBit) 2 : Nat) : Int), .int .u64 ((word (x.set.testBit) 3 : Nat) : Int), .slice B x.kids.len cap, .int .i64 x.lo, .int .i64 x.hi] 28)).alloc (.cells #[] 5)) = w2 at *
  obtain ⟨n0, n1, n2, n3, n4, n5, n6, n7⟩ := ((HN.out)).c8r
  have hln := (HN.out).lt
  go_wp2
  go_light
  go_ret
  exact empty_word _ _ HB.out
set_option maxHeartbeats 2000000 in
theorem rl_nil8 (x : Nd) (hk : x.kind = 8) (B : Option Addr) (cap : Nat) (w : World) :
    Calls Tryz.prog 65 #[ndV x B cap] w (WordOut [] w) := by
  have hb : Below w.heap.size w ((w.alloc (.cells #[.int .i64 x.kind, .int .u64 ((word (x.set.testBit) 0 : Nat) : Int), .int .u64 ((word (x.set.testBit) 1 : Nat) : Int), .int .u64 ((word (x.set.testBit) 2 : Nat) : Int), .int .u64 ((word (x.set.testBit) 3 : Nat) : Int), .slice B x.kids.len cap, .int .i64 x.lo, .int .i64 x.hi] 28)).alloc (.cells #[] 5)) := ((Below.refl _ _).alloc (Nat.le_refl _) _).alloc (by simp) _
  have HB := Lib.hid hb
  have HN := Lib.hid ((Blk.new w 28 #[.int .i64 x.kind, .int .u64 ((word (x.set.testBit) 0 : Nat) : Int), .int .u64 ((word (x.set.testBit) 1 : Nat) : Int), .int .u64 ((word (x.set.testBit) 2 : Nat) : Int), .int .u64 ((word (x.set.testBit) 3 : Nat) : Int), .slice B x.kids.len cap, .int .i64 x.lo, .int .i64 x.hi]).alloc (.cells #[] 5))
  have HE := Lib.hid (show Blk ((w.alloc (.cells #[.int .i64 x.kind, .int .u64 ((word (x.set.testBit) 0 : Nat) : Int), .int .u64 ((word (x.set.testBit) 1 : Nat) : Int), .int .u64 ((word (x.set.testBit) 2 : Nat) : Int), .int .u64 ((word (x.set.testBit) 3 : Nat) : Int), .slice B x.kids.len cap, .int .i64 x.lo, .int .i64 x.hi] 28)).alloc (.cells #[] 5)) (w.heap.size + 1) 5 #[] from Blk.new_at (by simp))
  clear hb
  unfold ndV
  rw [hk] at HN HB HE ⊢
  go_enter Tryz.func65, Tryz.ntmps65
  go_upto_region 2 with fail
  generalize ((w.alloc (.cells #[.int .i64 8, .int .u64 ((word (x.set.testBit) 0 : Nat) : Int), .int .u64 ((word (x.set.testBit) 1 : Nat) : Int), .int .u64 ((word (x.set.testBit) 2 : Nat) : Int), .int .u64 ((word (x.set.testBit) 3 : Nat) : Int), .slice B x.kids.len cap, .int .i64 x.lo, .int .i64 x.hi] 28)).alloc (.cells #[] 5)) = w2 at *
  obtain ⟨n0, n1, n2, n3, n4, n5, n6, n7⟩ := ((HN.out)).c8r
  have hln := (HN.out).lt
  go_wp2
  go_light
  go_ret
  exact empty_word _ _ HB.out
set_option maxHeartbeats 2000000 in
theorem rl_leaf (x : Nd) (c : Nat) (l0 : List Nat) (hk : x.kind = 3) (hc : elems x.set.testBit 256 = c :: l0) (hc2 : c < 256) (B : Option Addr) (cap : Nat) (w : World) :
    Calls Tryz.prog 65 #[ndV x B cap] w (WordOut [c] w) := by
  have hb : Below w.heap.size w ((w.alloc (.cells #[.int .i64 x.kind, .int .u64 ((word (x.set.testBit) 0 : Nat) : Int), .int .u64 ((word (x.set.testBit) 1 : Nat) : Int), .int .u64 ((word (x.set.testBit) 2 : Nat) : Int), .int .u64 ((word (x.set.testBit) 3 : Nat) : Int), .slice B x.kids.len cap, .int .i64 x.lo, .int .i64 x.hi] 28)).alloc (.cells #[] 5)) := ((Below.refl _ _).alloc (Nat.le_refl _) _).alloc (by simp) _
  have HB := Lib.hid hb
  have HN := Lib.hid ((Blk.new w 28 #[.int .i64 x.kind, .int .u64 ((word (x.set.testBit) 0 : Nat) : Int), .int .u64 ((word (x.set.testBit) 1 : Nat) : Int), .int .u64 ((word (x.set.testBit) 2 : Nat) : Int), .int .u64 ((word (x.set.testBit) 3 : Nat) : Int), .slice B x.kids.len cap, .int .i64 x.lo, .int .i64 x.hi]).alloc (.cells #[] 5))
  have HE := Lib.hid (show Blk ((w.alloc (.cells #[.int .i64 x.kind, .int .u64 ((word (x.set.testBit) 0 : Nat) : Int), .int .u64 ((word (x.set.testBit) 1 : Nat) : Int), .int .u64 ((word (x.set.testBit) 2 : Nat) : Int), .int .u64 ((word (x.set.testBit) 3 : Nat) : Int), .slice B x.kids.len cap, .int .i64 x.lo, .int .i64 x.hi] 28)).alloc (.cells #[] 5)) (w.heap.size + 1) 5 #[] from Blk.new_at (by simp))
  have HC := Lib.hid (rleasts_go x.set.testBit c l0 hc ((w.alloc (.cells #[.int .i64 x.kind, .int .u64 ((word (x.set.testBit) 0 : Nat) : Int), .int .u64 ((word (x.set.testBit) 1 : Nat) : Int), .int .u64 ((word (x.set.testBit) 2 : Nat) : Int), .int .u64 ((word (x.set.testBit) 3 : Nat) : Int), .slice B x.kids.len cap, .int .i64 x.lo, .int .i64 x.hi] 28)).alloc (.cells #[] 5)))
  have hwr := u8_wrap hc2
  have HC2 := Lib.hid hc2
  clear hb hc hc2
  unfold ndV
  rw [hk] at HN HB HE HC ⊢
  go_enter Tryz.func65, Tryz.ntmps65
  go_upto_region 2 with fail
  generalize ((w.alloc (.cells #[.int .i64 3, .int .u64 ((word (x.set.testBit) 0 : Nat) : Int), .int .u64 ((word (x.set.testBit) 1 : Nat) : Int), .int .u64 ((word (x.set.testBit) 2 : Nat) : Int), .int .u64 ((word (x.set.testBit) 3 : Nat) : Int), .slice B x.kids.len cap, .int .i64 x.lo, .int .i64 x.hi] 28)).alloc (.cells #[] 5)) = w2 at *
  obtain ⟨n0, n1, n2, n3, n4, n5, n6, n7⟩ := ((HN.out)).c8r
  have hln := (HN.out).lt
  go_wp2_with fail
  refine HC.out.mono ?_
  rintro e w3 ⟨rfl, hb3⟩
  have HS := Lib.hid (show w.heap.size ≤ w3.heap.size from Nat.le_trans HB.out.size hb3.size)
  have HB3 := Lib.hid ((HB.out.trans (hb3.mono HB.out.size)).alloc (by have := HB.out.size; have := hb3.size; omega) (.cells #[.int .u8 (c : Int)] 5))
  have HA := Lib.hid (bytes_new w3 w3.heap.size [c] #[.int .u8 (c : Int)] (0, 0) rfl rfl (by simpa using HC2.out) (by simp))
  clear n0 n1 n2 n3 n4 n5 n6 n7 hln
  clear hb3 HC
  dsimp only
  go_wp2
  go_light
  go_ret
  exact ⟨_, _, rfl, HA.out, HB3.out, fun _ a e => by cases e; exact HS.out⟩
set_option maxHeartbeats 2000000 in
theorem rl_plus (x z : Nd) (bs : List Nat) (hk : x.kind = 7) (hz : x.kids.list[0]? = some z) (hk1 : x.kids.len = 1) (P : Nat → Prop) (B : Option Addr) (cap : Nat) (w : World) (ht : TreesAt w P x.kids B)
    (hC : ∀ W C capc, Below w.heap.size w W → TreesAt W P z.kids C → Calls Tryz.prog 65 #[ndV z C capc] W (WordOut bs W)) :
    Calls Tryz.prog 65 #[ndV x B cap] w (WordOut bs w) := by
  have hb : Below w.heap.size w ((w.alloc (.cells #[.int .i64 x.kind, .int .u64 ((word (x.set.testBit) 0 : Nat) : Int), .int .u64 ((word (x.set.testBit) 1 : Nat) : Int), .int .u64 ((word (x.set.testBit) 2 : Nat) : Int), .int .u64 ((word (x.set.testBit) 3 : Nat) : Int), .slice B x.kids.len cap, .int .i64 x.lo, .int .i64 x.hi] 28)).alloc (.cells #[] 5)) := ((Below.refl _ _).alloc (Nat.le_refl _) _).alloc (by simp) _
  have HB := Lib.hid hb
  have HN := Lib.hid ((Blk.new w 28 #[.int .i64 x.kind, .int .u64 ((word (x.set.testBit) 0 : Nat) : Int), .int .u64 ((word (x.set.testBit) 1 : Nat) : Int), .int .u64 ((word (x.set.testBit) 2 : Nat) : Int), .int .u64 ((word (x.set.testBit) 3 : Nat) : Int), .slice B x.kids.len cap, .int .i64 x.lo, .int .i64 x.hi]).alloc (.cells #[] 5))
  have HE := Lib.hid (show Blk ((w.alloc (.cells #[.int .i64 x.kind, .int .u64 ((word (x.set.testBit) 0 : Nat) : Int), .int .u64 ((word (x.set.testBit) 1 : Nat) : Int), .int .u64 ((word (x.set.testBit) 2 : Nat) : Int), .int .u64 ((word (x.set.testBit) 3 : Nat) : Int), .slice B x.kids.len cap, .int .i64 x.lo, .int .i64 x.hi] 28)).alloc (.cells #[] 5)) (w.heap.size + 1) 5 #[] from Blk.new_at (by simp))
  have HT := Lib.hid (ht.below hb)
  have HCC := Lib.hid hC
  have HK1 := Lib.hid hk1
  clear hb hC ht hk1
  unfold ndV
  rw [hk] at HN HB HE HT ⊢
  go_enter Tryz.func65, Tryz.ntmps65
  go_upto_region 2 with fail
  generalize ((w.alloc (.cells #[.int .i64 7, .int .u64 ((word (x.set.testBit) 0 : Nat) : Int), .int .u64 ((word (x.set.testBit) 1 : Nat) : Int), .int .u64 ((word (x.set.testBit) 2 : Nat) : Int), .int .u64 ((word (x.set.testBit) 3 : Nat) : Int), .slice B x.kids.len cap, .int .i64 x.lo, .int .i64 x.hi] 28)).alloc (.cells #[] 5)) = w2 at *
  have hk1 := HK1.out
  obtain ⟨b, o, C, capc, rfl, _, _, ⟨c0, c1, c2, c3, c4, c5, c6, c7⟩, hkz⟩ := HT.out.get hz
  simp only [Nat.zero_mul, Nat.add_zero] at c0 c1 c2 c3 c4 c5 c6 c7
  have hblk := World.block_lt_of_cell? w2 _ c0
  have HC := Lib.hid (HCC.out w2 C capc HB.out hkz)
  unfold ndV at HC
  clear hkz hz
  obtain ⟨n0, n1, n2, n3, n4, n5, n6, n7⟩ := ((HN.out)).c8r
  have hln := (HN.out).lt
  go_wp2_with fail
  refine HC.out.mono ?_
  rintro e w3 ⟨A3, k3, rfl, hA3, hb3, hn3⟩
  have HNW := Lib.hid (show 0 < bs.length → ∀ a, A3 = some a → w.heap.size ≤ a.block from fun h a e => Nat.le_trans HB.out.size (hn3 h a e))
  have HB3 := Lib.hid (HB.out.trans (hb3.mono HB.out.size))
  have HA3 := Lib.hid hA3
  clear hb3 hA3 hn3 HC c0 c1 c2 c3 c4 c5 c6 c7 hblk
  clear n0 n1 n2 n3 n4 n5 n6 n7 hln
  dsimp only
  go_wp2
  go_light
  go_ret
  exact ⟨_, _, rfl, HA3.out, HB3.out, HNW.out⟩
/-- An empty row of one's own. -/
theorem own_empty {w : World} {base g : Nat} {e : TypeId} (h : Blk w g e #[]) (hb : base ≤ g) (size : Nat) : w.ownsRow base e size (.slice (some ⟨g, 0, none⟩) 0 0) 0 [] :=
  ⟨by simp, .inr ⟨g, 0, #[], rfl, hb, h, Nat.le_refl _, Nat.zero_le _, by simp, by simp⟩⟩
set_option maxHeartbeats 4000000 in
theorem rl_cat (x : Nd) (hk : x.kind = 4) (hl : x.kids.len ≤ 2000000) (hp : ∀ (i : Nat) z, x.kids.list[i]? = some z → z.sum.hollow = false) (hlen : x.kids.leasts.flatten.length ≤ 2000)
    (P : Nat → Prop) (B : Option Addr) (cap : Nat) (w : World) (ht : TreesAt w P x.kids B) (hG : KidRl x.kids P w) :
    Calls Tryz.prog 65 #[ndV x B cap] w (WordOut x.kids.leasts.flatten w) := by
  have hb : Below w.heap.size w ((w.alloc (.cells #[.int .i64 x.kind, .int .u64 ((word (x.set.testBit) 0 : Nat) : Int), .int .u64 ((word (x.set.testBit) 1 : Nat) : Int), .int .u64 ((word (x.set.testBit) 2 : Nat) : Int), .int .u64 ((word (x.set.testBit) 3 : Nat) : Int), .slice B x.kids.len cap, .int .i64 x.lo, .int .i64 x.hi] 28)).alloc (.cells #[] 5)) := ((Below.refl _ _).alloc (Nat.le_refl _) _).alloc (by simp) _
  have HB := Lib.hid hb
  have HN := Lib.hid ((Blk.new w 28 #[.int .i64 x.kind, .int .u64 ((word (x.set.testBit) 0 : Nat) : Int), .int .u64 ((word (x.set.testBit) 1 : Nat) : Int), .int .u64 ((word (x.set.testBit) 2 : Nat) : Int), .int .u64 ((word (x.set.testBit) 3 : Nat) : Int), .slice B x.kids.len cap, .int .i64 x.lo, .int .i64 x.hi]).alloc (.cells #[] 5))
  have HE := Lib.hid (show Blk ((w.alloc (.cells #[.int .i64 x.kind, .int .u64 ((word (x.set.testBit) 0 : Nat) : Int), .int .u64 ((word (x.set.testBit) 1 : Nat) : Int), .int .u64 ((word (x.set.testBit) 2 : Nat) : Int), .int .u64 ((word (x.set.testBit) 3 : Nat) : Int), .slice B x.kids.len cap, .int .i64 x.lo, .int .i64 x.hi] 28)).alloc (.cells #[] 5)) (w.heap.size + 1) 5 #[] from Blk.new_at (by simp))
  have HT := Lib.hid ht
  have HG := Lib.hid hG
  have HP := Lib.hid hp
  have HL := Lib.hid hlen
  have HFl := Lib.hid (Trees.len_list x.kids)
  have HLs := Lib.hid (fun (k : Nat) (z : Nd) (h : x.kids.list[k]? = some z) => leasts_get h)
  have HLl := Lib.hid (show x.kids.leasts.length = x.kids.len by rw [Trees.leasts_list, List.length_map, Trees.len_list])
  have H256 := Lib.hid (leasts_bytes x.kids)
  clear hb ht hG hp hlen
  unfold ndV
  rw [hk] at HN HB HE ⊢
  generalize x.kids.leasts = L at *
  generalize x.kids.len = fl at *
  go_enter Tryz.func65, Tryz.ntmps65
  go_upto_region 2 with fail
  generalize ((w.alloc (.cells #[.int .i64 4, .int .u64 ((word (x.set.testBit) 0 : Nat) : Int), .int .u64 ((word (x.set.testBit) 1 : Nat) : Int), .int .u64 ((word (x.set.testBit) 2 : Nat) : Int), .int .u64 ((word (x.set.testBit) 3 : Nat) : Int), .slice B fl cap, .int .i64 x.lo, .int .i64 x.hi] 28)).alloc (.cells #[] 5)) = w2 at *
  obtain ⟨n0, n1, n2, n3, n4, n5, n6, n7⟩ := ((HN.out)).c8r
  have hln := (HN.out).lt
  go_wp2
  clear n0 n1 n2 n3 n4 n5 n6 n7 hln
  go_loopw [3, 4] (fun u i wr => ∃ k : Nat, i = .int .i64 (k : Int) ∧ k ≤ fl ∧ Hid (wr.ownsRow (w.heap.size + 1) 5 1 u ((L.take k).flatten).length (((L.take k).flatten).map (fun n : Nat => Value.int .u8 (n : Int)))) ∧ Hid (Below (w.heap.size + 1) w2 wr)) (fun _ i _ => fl - (intOf i).toNat)
  case atStart => exact ⟨0, rfl, Nat.zero_le _, Lib.hid (own_empty HE.out (Nat.le_refl _) 1), Lib.hid (Below.refl _ _)⟩
  case round =>
    clear HE
    obtain ⟨k, rfl, hk, HR, HW⟩ := hrel
    have HX := Lib.hid (HN.out.below HW.out (Nat.lt_succ_self _))
    have HWT := Lib.hid (show Below w.heap.size w wr from HB.out.trans (HW.out.mono (Nat.le_succ _)))
    have n5 := HX.out.cell 5
    have hlx := HX.out.lt
    simp only [List.getElem?_toArray, List.getElem?_cons_zero, List.getElem?_cons_succ] at n5
    by_cases hlt : k < fl
    · obtain ⟨z, hz⟩ : ∃ z, x.kids.list[k]? = some z := ⟨_, List.getElem?_eq_getElem (by rw [HFl.out]; exact hlt)⟩
      obtain ⟨b, o, C, capc, rfl, _, _, ⟨c0, c1, c2, c3, c4, c5, c6, c7⟩, hkz⟩ := (HT.out.below HWT.out).get hz
      have hdl : (k : Int) < (fl : Int) := by omega
      have HC := Lib.hid (HG.out k z C capc wr hz (HP.out k z hz) HWT.out hkz)
      have hgz := HLs.out k z hz
      have HF := Lib.hid (flat_takeW hgz)
      have HFp := Lib.hid (flat_part L (k + 1))
      clear hz hkz hgz HX HWT
      unfold ndV at HC
      generalize (L.take k).flatten = acc at *
      generalize z.least = bs at *
      go_wp2_with fail
      refine HC.out.mono ?_
      rintro e w4 ⟨A4, k4, rfl, hA4, hb4, _⟩
      have hR4 := own_below HR.out hb4
      have hws : w.heap.size + 1 ≤ wr.heap.size := by omega
      have HW4 := Lib.hid (HW.out.trans (hb4.mono hws))
      obtain ⟨v5, w5, hrun, hown5, hgrow5⟩ := append_own_bytes w4 (w.heap.size + 1) u3 acc hR4 k4 hA4 (by have := HFp.out; rw [HF.out, List.length_append] at this; have := HL.out; omega) (by have := hb4.size; omega) 30 30 Tryz.underlying30
      have HR5 := Lib.hid hown5
      have HW5 := Lib.hid (below_grown HW4.out hgrow5 hR4 (Nat.le_refl _) (by have := hb4.size; omega))
      clear hR4 hown5 hgrow5 hA4 hb4 HC HR HW HW4 c0 c1 c2 c3 c4 c5 c6 c7 n5 hlx hws
      dsimp only
      go_wp2_with (at_builtin; refine wpList_append_by rfl _ _ 30 30 rfl _ _ _ _ rfl rfl hrun ?_)
      clear hrun
      go_light
      go_roundw
      case rel => exact ⟨k + 1, by go_num, by omega, Lib.hid (by rw [HF.out]; exact HR5.out), HW5⟩
      case measure => simp [intOf]; omega
    · have hdl : ¬ (k : Int) < (fl : Int) := by omega
      obtain rfl : k = fl := by omega
      have hta : L.take k = L := List.take_of_length_le (Nat.le_of_eq HLl.out)
      rw [hta] at HR
      have h6 := flat_bytes H256.out
      have hfl := HL.out
      clear HL H256 HP HG hta
      generalize L.flatten = fw at *
      obtain ⟨A5, cap5, rfl, h5, h7⟩ := own_bytesat HR.out h6 (by omega)
      have HN5 := Lib.hid (show ∀ a, A5 = some a → w.heap.size ≤ a.block from fun a e => by have := h7 a e; omega)
      clear h7
      have HA5 := Lib.hid h5
      clear HR h5 h6
      go_wp2
      go_light
      go_ret
      exact ⟨A5, cap5, rfl, HA5.out, HWT.out, fun _ => HN5.out⟩
theorem rpick_take : ∀ {S : List SumS} {L : List (List Nat)} {k : Nat} {s : SumS} {w : List Nat}, S[k]? = some s → L[k]? = some w → rpick (S.take (k + 1)) (L.take (k + 1)) = rpick (S.take k) (L.take k) ++ (if s.hollow = true then [] else [w])
  | [], _, k, s, w, h, _ => by simp at h
  | _ :: _, [], k, s, w, _, h => by simp at h
  | a :: S, b :: L, 0, s, w, h, h2 => by
    simp at h h2
    subst h h2
    simp [rpick]
  | a :: S, b :: L, k + 1, s, w, h, h2 => by
    have ih := rpick_take (S := S) (L := L) (k := k) (s := s) (w := w) (by simpa using h) (by simpa using h2)
    simp only [List.take_succ_cons, rpick]
    by_cases ha : a.hollow = true
    · rw [if_pos ha, if_pos ha, ih]
    · rw [if_neg ha, if_neg ha, ih, List.cons_append]
def someB (l : List (List Nat)) : Bool := !l.isEmpty
set_option maxHeartbeats 8000000 in
theorem rl_alt (x : Nd) (hk : x.kind = 5) (hl : x.kids.len ≤ 2000000) (hs : x.size ≤ 140737488355328) (ho : ∀ y ∈ x.nodes, aloneN y = true)
    (P : Nat → Prop) (B : Option Addr) (cap : Nat) (w : World) (ht : TreesAt w P x.kids B) (hG : KidRl x.kids P w) :
    Calls Tryz.prog 65 #[ndV x B cap] w (WordOut (minW (rpick x.kids.sums x.kids.leasts)) w) := by
  have hb : Below w.heap.size w ((w.alloc (.cells #[.int .i64 x.kind, .int .u64 ((word (x.set.testBit) 0 : Nat) : Int), .int .u64 ((word (x.set.testBit) 1 : Nat) : Int), .int .u64 ((word (x.set.testBit) 2 : Nat) : Int), .int .u64 ((word (x.set.testBit) 3 : Nat) : Int), .slice B x.kids.len cap, .int .i64 x.lo, .int .i64 x.hi] 28)).alloc (.cells #[] 5)) := ((Below.refl _ _).alloc (Nat.le_refl _) _).alloc (by simp) _
  have HB := Lib.hid hb
  have HN := Lib.hid ((Blk.new w 28 #[.int .i64 x.kind, .int .u64 ((word (x.set.testBit) 0 : Nat) : Int), .int .u64 ((word (x.set.testBit) 1 : Nat) : Int), .int .u64 ((word (x.set.testBit) 2 : Nat) : Int), .int .u64 ((word (x.set.testBit) 3 : Nat) : Int), .slice B x.kids.len cap, .int .i64 x.lo, .int .i64 x.hi]).alloc (.cells #[] 5))
  have HE := Lib.hid (show Blk ((w.alloc (.cells #[.int .i64 x.kind, .int .u64 ((word (x.set.testBit) 0 : Nat) : Int), .int .u64 ((word (x.set.testBit) 1 : Nat) : Int), .int .u64 ((word (x.set.testBit) 2 : Nat) : Int), .int .u64 ((word (x.set.testBit) 3 : Nat) : Int), .slice B x.kids.len cap, .int .i64 x.lo, .int .i64 x.hi] 28)).alloc (.cells #[] 5)) (w.heap.size + 1) 5 #[] from Blk.new_at (by simp))
  have HT := Lib.hid ht
  have HG := Lib.hid hG
  have HH := Lib.hid (fun (k : Nat) (z : Nd) (hz : x.kids.list[k]? = some z) (W : World) (C : Option Addr) (c : Nat) (h : TreesAt W P z.kids C) => rhollow_go z P C c W (by have := Trees.size_get x.kids k z hz; unfold Nd.size at hs; omega) (fun y hy => ho y (kid_nodes hz y hy)) h)
  have HFl := Lib.hid (Trees.len_list x.kids)
  have HLs := Lib.hid (fun (k : Nat) (z : Nd) (h : x.kids.list[k]? = some z) => leasts_get h)
  have HSs := Lib.hid (fun (k : Nat) (z : Nd) (h : x.kids.list[k]? = some z) => sums_getW h)
  have HLl := Lib.hid (show x.kids.leasts.length = x.kids.len by rw [Trees.leasts_list, List.length_map, Trees.len_list])
  have HSl := Lib.hid (show x.kids.sums.length = x.kids.len by rw [Trees.sums_list, List.length_map, Trees.len_list])
  clear hb ht hG ho hs
  unfold ndV
  rw [hk] at HN HB HE ⊢
  generalize x.kids.leasts = L at *
  generalize x.kids.sums = S at *
  generalize x.kids.len = fl at *
  go_enter Tryz.func65, Tryz.ntmps65
  go_upto_region 2 with fail
  generalize ((w.alloc (.cells #[.int .i64 5, .int .u64 ((word (x.set.testBit) 0 : Nat) : Int), .int .u64 ((word (x.set.testBit) 1 : Nat) : Int), .int .u64 ((word (x.set.testBit) 2 : Nat) : Int), .int .u64 ((word (x.set.testBit) 3 : Nat) : Int), .slice B fl cap, .int .i64 x.lo, .int .i64 x.hi] 28)).alloc (.cells #[] 5)) = w2 at *
  obtain ⟨n0, n1, n2, n3, n4, n5, n6, n7⟩ := ((HN.out)).c8r
  have hln := (HN.out).lt
  go_wp2
  clear n0 n1 n2 n3 n4 n5 n6 n7 hln
  go_loopw [3, 5, 6] (fun u f i wr => ∃ (k : Nat) (A : Option Addr) (cp : Nat), i = .int .i64 (k : Int) ∧ k ≤ fl ∧ u = .slice A (minW (rpick (S.take k) (L.take k))).length cp ∧ f = .bool (someB (rpick (S.take k) (L.take k))) ∧ Hid (BytesAt wr wr.heap.size A (minW (rpick (S.take k) (L.take k)))) ∧ Hid (0 < (minW (rpick (S.take k) (L.take k))).length → ∀ a, A = some a → w.heap.size ≤ a.block) ∧ Hid (Below w2.heap.size w2 wr)) (fun _ _ i _ => fl - (intOf i).toNat)
  case atStart => exact ⟨0, _, 0, rfl, Nat.zero_le _, rfl, rfl, Lib.hid ⟨(fun c hc => by simp [rpick, minW] at hc), Nat.zero_le _, (fun h => by simp [rpick, minW] at h)⟩, Lib.hid (fun h => by simp [rpick, minW] at h), Lib.hid (Below.refl _ _)⟩
  case round =>
    clear HE
    obtain ⟨k, A, cp, rfl, hk, rfl, rfl, HA, HQ, HW⟩ := hrel
    have HX := Lib.hid (HN.out.below HW.out HN.out.lt)
    have HWT := Lib.hid (show Below w.heap.size w wr from HB.out.trans (HW.out.mono HB.out.size))
    have n5 := HX.out.cell 5
    have hlx := HX.out.lt
    simp only [List.getElem?_toArray, List.getElem?_cons_zero, List.getElem?_cons_succ] at n5
    by_cases hlt : k < fl
    · obtain ⟨z, hz⟩ : ∃ z, x.kids.list[k]? = some z := ⟨_, List.getElem?_eq_getElem (by rw [HFl.out]; exact hlt)⟩
      obtain ⟨b, o, C, capc, rfl, _, _, ⟨c0, c1, c2, c3, c4, c5, c6, c7⟩, hkz⟩ := (HT.out.below HWT.out).get hz
      have hlb := World.block_lt_of_cell? wr _ c0
      have hdl : (k : Int) < (fl : Int) := by omega
      have HC := Lib.hid (HH.out k z hz wr C capc hkz)
      have HPT := Lib.hid (rpick_take (HSs.out k z hz) (HLs.out k z hz))
      have HZ := Lib.hid hz
      have HKZ := Lib.hid hkz
      have HCS := Lib.hid (show wr.cell? ⟨b, o + k * 8, none⟩ = _ ∧ wr.cell? ⟨b, o + k * 8 + 1, none⟩ = _ ∧ wr.cell? ⟨b, o + k * 8 + 2, none⟩ = _ ∧ wr.cell? ⟨b, o + k * 8 + 3, none⟩ = _ ∧ wr.cell? ⟨b, o + k * 8 + 4, none⟩ = _ ∧ wr.cell? ⟨b, o + k * 8 + 5, none⟩ = _ ∧ wr.cell? ⟨b, o + k * 8 + 6, none⟩ = _ ∧ wr.cell? ⟨b, o + k * 8 + 7, none⟩ = _ from ⟨c0, c1, c2, c3, c4, c5, c6, c7⟩)
      clear hz hkz
      unfold ndV at HC
      generalize rpick (S.take k) (L.take k) = acc at *
      generalize hml : (minW acc).length = ml at *
      have HML := Lib.hid hml
      clear hml
      generalize hsb : someB acc = sb at *
      have HSB := Lib.hid hsb
      clear hsb
      go_wp2_with fail
      refine HC.out.mono ?_
      rintro e w4 ⟨rfl, hb4⟩
      have HW4 := Lib.hid (HW.out.trans (hb4.mono HW.out.size))
      have HWT4 := Lib.hid (HWT.out.trans (hb4.mono HWT.out.size))
      have HA4 := Lib.hid ((HA.out.below hb4).more hb4.size)
      have HX4 := Lib.hid (HX.out.below hb4 HX.out.lt)
      have HK4 := Lib.hid (HKZ.out.below hb4)
      have HD4 := Lib.hid (hb4.cell (p := ⟨b, o + k * 8, none⟩) hlb)
      obtain ⟨e0, e1, e2, e3, e4, e5, e6, e7⟩ := HCS.out
      have d0 := (hb4.cell (p := ⟨b, _, none⟩) hlb).trans e0
      have d1 := (hb4.cell (p := ⟨b, _, none⟩) hlb).trans e1
      have d2 := (hb4.cell (p := ⟨b, _, none⟩) hlb).trans e2
      have d3 := (hb4.cell (p := ⟨b, _, none⟩) hlb).trans e3
      have d4 := (hb4.cell (p := ⟨b, _, none⟩) hlb).trans e4
      have d5 := (hb4.cell (p := ⟨b, _, none⟩) hlb).trans e5
      have d6 := (hb4.cell (p := ⟨b, _, none⟩) hlb).trans e6
      have d7 := (hb4.cell (p := ⟨b, _, none⟩) hlb).trans e7
      have hlb4 : b < w4.heap.size := Nat.lt_of_lt_of_le hlb hb4.size
      clear hb4 HC c0 c1 c2 c3 c4 c5 c6 c7 e0 e1 e2 e3 e4 e5 e6 e7 HX HKZ HW HWT HA n5 hlx hlb HCS HD4
      have n5 := HX4.out.cell 5
      have hlx := HX4.out.lt
      simp only [List.getElem?_toArray, List.getElem?_cons_zero, List.getElem?_cons_succ] at n5
      cases hzh : z.sum.hollow with
      | true =>
        have HP2 := Lib.hid (HPT.out.trans (by rw [if_pos hzh, List.append_nil]))
        clear hzh
        dsimp only
        go_wp2
        go_light
        go_roundw
        case rel => exact ⟨k + 1, A, cp, by go_num, by omega, by rw [HP2.out, HML.out], by rw [HP2.out, HSB.out], Lib.hid (by rw [HP2.out]; exact HA4.out), Lib.hid (by rw [HP2.out, HML.out]; exact HQ.out), HW4⟩
        case measure => simp [intOf]; omega
      | false =>
        have HP2 := Lib.hid (HPT.out.trans (by rw [if_neg (by rw [hzh]; decide)]))
        have HC := Lib.hid (HG.out k z C capc w4 HZ.out hzh HWT4.out HK4.out)
        clear hzh
        unfold ndV at HC
        dsimp only
        go_wp2_with fail
        refine HC.out.mono ?_
        rintro e w5 ⟨A5, k5, rfl, hA5, hb5, hn5⟩
        have HW5 := Lib.hid (HW4.out.trans (hb5.mono HW4.out.size))
        have HA5 := Lib.hid hA5
        have HO5 := Lib.hid ((HA4.out.below hb5).more hb5.size)
        have HN5 := Lib.hid (show 0 < z.least.length → ∀ a, A5 = some a → w.heap.size ≤ a.block from fun h a e => Nat.le_trans HWT4.out.size (hn5 h a e))
        have HL5 := Lib.hid (rless_go k5 cp hA5 HO5.out)
        clear hb5 hA5 hn5 HC d0 d1 d2 d3 d4 d5 d6 d7 hlb4 HX4 HK4 HW4 HWT4 HA4 n5 hlx
        generalize z.least = bs at *
        generalize hbl : bs.length = bl at *
        have HBL := Lib.hid hbl
        clear hbl
        rw [HML.out] at HL5
        by_cases ha : acc = []
        · have hsb : sb = false := by rw [← HSB.out, ha]; rfl
          have HP3 := Lib.hid (show minW (acc ++ [bs]) = bs ∧ someB (acc ++ [bs]) = true by rw [ha]; exact ⟨rfl, rfl⟩)
          subst hsb
          clear ha HL5
          dsimp only
          go_wp2
          go_light
          go_roundw
          case rel => exact ⟨k + 1, A5, k5, by go_num, by omega, by rw [HP2.out, HP3.out.1, HBL.out], by rw [HP2.out, HP3.out.2], Lib.hid (by rw [HP2.out, HP3.out.1]; exact HA5.out), Lib.hid (by rw [HP2.out, HP3.out.1, HBL.out]; exact HN5.out), HW5⟩
          case measure => simp [intOf]; omega
        · have hsb : sb = true := by
            rw [← HSB.out]
            unfold someB
            cases acc with
            | nil => exact absurd rfl ha
            | cons _ _ => rfl
          have HP3 := Lib.hid (show minW (acc ++ [bs]) = stepW (minW acc) bs ∧ someB (acc ++ [bs]) = true from ⟨minW_snoc ha bs, by unfold someB; cases acc <;> rfl⟩)
          subst hsb
          clear ha
          dsimp only
          go_wp2_with fail
          refine HL5.out.mono ?_
          rintro e w6 ⟨rfl, rfl⟩
          cases hls : lessW bs (minW acc) with
          | true =>
            have HP4 := Lib.hid (show minW (acc ++ [bs]) = bs by rw [HP3.out.1]; unfold stepW; rw [if_pos hls])
            clear hls HL5
            dsimp only
            go_wp2
            go_light
            go_roundw
            case rel => exact ⟨k + 1, A5, k5, by go_num, by omega, by rw [HP2.out, HP4.out, HBL.out], by rw [HP2.out, HP3.out.2], Lib.hid (by rw [HP2.out, HP4.out]; exact HA5.out), Lib.hid (by rw [HP2.out, HP4.out, HBL.out]; exact HN5.out), HW5⟩
            case measure => simp [intOf]; omega
          | false =>
            have HP4 := Lib.hid (show minW (acc ++ [bs]) = minW acc by rw [HP3.out.1]; unfold stepW; rw [if_neg (by rw [hls]; decide)])
            clear hls HL5
            dsimp only
            go_wp2
            go_light
            go_roundw
            case rel => exact ⟨k + 1, A, cp, by go_num, by omega, by rw [HP2.out, HP4.out, HML.out], by rw [HP2.out, HP3.out.2], Lib.hid (by rw [HP2.out, HP4.out]; exact HO5.out), Lib.hid (by rw [HP2.out, HP4.out, HML.out]; exact HQ.out), HW5⟩
            case measure => simp [intOf]; omega
    · have hdl : ¬ (k : Int) < (fl : Int) := by omega
      obtain rfl : k = fl := by omega
      rw [List.take_of_length_le (Nat.le_of_eq HSl.out), List.take_of_length_le (Nat.le_of_eq HLl.out)] at HA HQ ⊢
      generalize minW (rpick S L) = mw at *
      go_wp2
      go_light
      go_ret
      exact ⟨A, cp, rfl, HA.out, HWT.out, HQ.out⟩
set_option maxHeartbeats 4000000 in
theorem rl_rep0 (x : Nd) (n : Nat) (hk : x.kind = 9) (hlo : x.lo = (n : Int)) (h0 : x.sum.short = 0) (hs : x.size ≤ 140737488355328) (ho : ∀ y ∈ x.nodes, aloneN y = true) (P : Nat → Prop) (B : Option Addr) (cap : Nat) (w : World) (ht : TreesAt w P x.kids B) :
    Calls Tryz.prog 65 #[ndV x B cap] w (WordOut [] w) := by
  have hb : Below w.heap.size w ((w.alloc (.cells #[.int .i64 x.kind, .int .u64 ((word (x.set.testBit) 0 : Nat) : Int), .int .u64 ((word (x.set.testBit) 1 : Nat) : Int), .int .u64 ((word (x.set.testBit) 2 : Nat) : Int), .int .u64 ((word (x.set.testBit) 3 : Nat) : Int), .slice B x.kids.len cap, .int .i64 x.lo, .int .i64 x.hi] 28)).alloc (.cells #[] 5)) := ((Below.refl _ _).alloc (Nat.le_refl _) _).alloc (by simp) _
  have HB := Lib.hid hb
  have HN := Lib.hid ((Blk.new w 28 #[.int .i64 x.kind, .int .u64 ((word (x.set.testBit) 0 : Nat) : Int), .int .u64 ((word (x.set.testBit) 1 : Nat) : Int), .int .u64 ((word (x.set.testBit) 2 : Nat) : Int), .int .u64 ((word (x.set.testBit) 3 : Nat) : Int), .slice B x.kids.len cap, .int .i64 x.lo, .int .i64 x.hi]).alloc (.cells #[] 5))
  have HE := Lib.hid (show Blk ((w.alloc (.cells #[.int .i64 x.kind, .int .u64 ((word (x.set.testBit) 0 : Nat) : Int), .int .u64 ((word (x.set.testBit) 1 : Nat) : Int), .int .u64 ((word (x.set.testBit) 2 : Nat) : Int), .int .u64 ((word (x.set.testBit) 3 : Nat) : Int), .slice B x.kids.len cap, .int .i64 x.lo, .int .i64 x.hi] 28)).alloc (.cells #[] 5)) (w.heap.size + 1) 5 #[] from Blk.new_at (by simp))
  have hS := rshort_go x P B cap ((w.alloc (.cells #[.int .i64 x.kind, .int .u64 ((word (x.set.testBit) 0 : Nat) : Int), .int .u64 ((word (x.set.testBit) 1 : Nat) : Int), .int .u64 ((word (x.set.testBit) 2 : Nat) : Int), .int .u64 ((word (x.set.testBit) 3 : Nat) : Int), .slice B x.kids.len cap, .int .i64 x.lo, .int .i64 x.hi] 28)).alloc (.cells #[] 5)) hs ho (ht.below hb)
  rw [h0] at hS
  have HS := Lib.hid hS
  clear hb ht hS h0 ho hs
  unfold ndV at HS ⊢
  rw [hk, hlo] at HN HB HE HS ⊢
  go_enter Tryz.func65, Tryz.ntmps65
  go_upto_region 2 with fail
  generalize ((w.alloc (.cells #[.int .i64 9, .int .u64 ((word (x.set.testBit) 0 : Nat) : Int), .int .u64 ((word (x.set.testBit) 1 : Nat) : Int), .int .u64 ((word (x.set.testBit) 2 : Nat) : Int), .int .u64 ((word (x.set.testBit) 3 : Nat) : Int), .slice B x.kids.len cap, .int .i64 (n : Int), .int .i64 x.hi] 28)).alloc (.cells #[] 5)) = w2 at *
  have HN0 := Lib.hid ((HN.out))
  obtain ⟨n0, n1, n2, n3, n4, n5, n6, n7⟩ := ((HN.out)).c8r
  have hln := (HN.out).lt

  go_wp2_with fail
  refine HS.out.mono ?_
  rintro e w3 ⟨rfl, hb3⟩
  have HN3 := Lib.hid (HN.out.below hb3 HN.out.lt)
  have HB3 := Lib.hid (HB.out.trans (hb3.mono HB.out.size))
  clear n0 n1 n2 n3 n4 n5 n6 n7 hln

  clear hb3 HS HN0
  dsimp only
  go_wp2
  go_light
  go_ret
  exact empty_word _ _ HB3.out
theorem repW_snoc (n : Nat) (bs : List Nat) : repW (n + 1) bs = repW n bs ++ bs := by
  unfold repW
  rw [List.replicate_succ', List.flatten_append]
  simp
set_option maxHeartbeats 4000000 in
theorem rl_rep1 (x z : Nd) (n : Nat) (hk : x.kind = 9) (hlo : x.lo = (n : Int)) (h0 : x.sum.short ≠ 0) (h1 : n ≤ 1000) (hz : x.kids.list[0]? = some z) (hk1 : x.kids.len = 1) (hT : n * z.least.length ≤ 8192) (hs : x.size ≤ 140737488355328) (ho : ∀ y ∈ x.nodes, aloneN y = true) (P : Nat → Prop) (B : Option Addr) (cap : Nat) (w : World) (ht : TreesAt w P x.kids B)
    (hC : ∀ W C capc, Below w.heap.size w W → TreesAt W P z.kids C → Calls Tryz.prog 65 #[ndV z C capc] W (WordOut z.least W)) :
    Calls Tryz.prog 65 #[ndV x B cap] w (WordOut (repW n z.least) w) := by
  have hb : Below w.heap.size w ((w.alloc (.cells #[.int .i64 x.kind, .int .u64 ((word (x.set.testBit) 0 : Nat) : Int), .int .u64 ((word (x.set.testBit) 1 : Nat) : Int), .int .u64 ((word (x.set.testBit) 2 : Nat) : Int), .int .u64 ((word (x.set.testBit) 3 : Nat) : Int), .slice B x.kids.len cap, .int .i64 x.lo, .int .i64 x.hi] 28)).alloc (.cells #[] 5)) := ((Below.refl _ _).alloc (Nat.le_refl _) _).alloc (by simp) _
  have HB := Lib.hid hb
  have HN := Lib.hid ((Blk.new w 28 #[.int .i64 x.kind, .int .u64 ((word (x.set.testBit) 0 : Nat) : Int), .int .u64 ((word (x.set.testBit) 1 : Nat) : Int), .int .u64 ((word (x.set.testBit) 2 : Nat) : Int), .int .u64 ((word (x.set.testBit) 3 : Nat) : Int), .slice B x.kids.len cap, .int .i64 x.lo, .int .i64 x.hi]).alloc (.cells #[] 5))
  have HE := Lib.hid (show Blk ((w.alloc (.cells #[.int .i64 x.kind, .int .u64 ((word (x.set.testBit) 0 : Nat) : Int), .int .u64 ((word (x.set.testBit) 1 : Nat) : Int), .int .u64 ((word (x.set.testBit) 2 : Nat) : Int), .int .u64 ((word (x.set.testBit) 3 : Nat) : Int), .slice B x.kids.len cap, .int .i64 x.lo, .int .i64 x.hi] 28)).alloc (.cells #[] 5)) (w.heap.size + 1) 5 #[] from Blk.new_at (by simp))
  have HS := Lib.hid (rshort_go x P B cap ((w.alloc (.cells #[.int .i64 x.kind, .int .u64 ((word (x.set.testBit) 0 : Nat) : Int), .int .u64 ((word (x.set.testBit) 1 : Nat) : Int), .int .u64 ((word (x.set.testBit) 2 : Nat) : Int), .int .u64 ((word (x.set.testBit) 3 : Nat) : Int), .slice B x.kids.len cap, .int .i64 x.lo, .int .i64 x.hi] 28)).alloc (.cells #[] 5)) hs ho (ht.below hb))
  have HT := Lib.hid ht
  have HCC := Lib.hid hC
  have HZ := Lib.hid hz
  have HTT := Lib.hid hT
  have hn0 : (x.sum.short == 0) = false := by rw [beq_eq_false_iff_ne]; exact h0
  have H256 := Lib.hid (show ∀ k, ∀ c ∈ repW k z.least, c < 256 from fun k => flat_bytes (fun u hu => by rw [List.eq_of_mem_replicate hu]; exact least_bytes z))
  clear hb hC ht hT hs ho h0 hz
  unfold ndV at HS ⊢
  rw [hk, hlo, hk1] at HN HB HE HS ⊢
  clear hk1
  generalize x.sum.short = sh at *
  go_enter Tryz.func65, Tryz.ntmps65
  go_upto_region 2 with fail
  generalize ((w.alloc (.cells #[.int .i64 9, .int .u64 ((word (x.set.testBit) 0 : Nat) : Int), .int .u64 ((word (x.set.testBit) 1 : Nat) : Int), .int .u64 ((word (x.set.testBit) 2 : Nat) : Int), .int .u64 ((word (x.set.testBit) 3 : Nat) : Int), .slice B 1 cap, .int .i64 (n : Int), .int .i64 x.hi] 28)).alloc (.cells #[] 5)) = w2 at *
  have HN0 := Lib.hid ((HN.out))
  obtain ⟨n0, n1, n2, n3, n4, n5, n6, n7⟩ := ((HN.out)).c8r
  have hln := (HN.out).lt

  go_wp2_with fail
  refine HS.out.mono ?_
  rintro e w3 ⟨rfl, hb3⟩
  have HN3 := Lib.hid (HN.out.below hb3 HN.out.lt)
  have HB3 := Lib.hid (HB.out.trans (hb3.mono HB.out.size))
  clear n0 n1 n2 n3 n4 n5 n6 n7 hln

  have HE3 := Lib.hid (HE.out.below hb3 HE.out.lt)
  clear hb3 HS HN0 HN HE HB
  generalize z.least = bs at *
  dsimp only
  go_wp2
  go_loopw [3, 8] (fun u i wr => ∃ k : Nat, i = .int .i64 (k : Int) ∧ k ≤ n ∧ Hid (wr.ownsRow (w.heap.size + 1) 5 1 u (repW k bs).length ((repW k bs).map (fun n : Nat => Value.int .u8 (n : Int)))) ∧ Hid (Below (w.heap.size + 1) w3 wr)) (fun _ i _ => n - (intOf i).toNat)
  case atStart => exact ⟨0, rfl, Nat.zero_le _, Lib.hid (own_empty HE3.out (Nat.le_refl _) 1), Lib.hid (Below.refl _ _)⟩
  case round =>
    clear HE3
    obtain ⟨k, rfl, hk, HR, HW⟩ := hrel
    have HX := Lib.hid (HN3.out.below HW.out (Nat.lt_succ_self _))
    have HWT := Lib.hid (show Below w.heap.size w wr from HB3.out.trans (HW.out.mono (Nat.le_succ _)))
    have n5 := HX.out.cell 5
    have n6 := HX.out.cell 6
    have hlx := HX.out.lt
    simp only [List.getElem?_toArray, List.getElem?_cons_zero, List.getElem?_cons_succ] at n5 n6
    by_cases hlt : k < n
    · obtain ⟨b, o, C, capc, rfl, _, _, ⟨c0, c1, c2, c3, c4, c5, c6, c7⟩, hkz⟩ := (HT.out.below HWT.out).get HZ.out
      simp only [Nat.zero_mul, Nat.add_zero] at c0 c1 c2 c3 c4 c5 c6 c7
      have hdl : (k : Int) < (n : Int) := by omega
      have HC := Lib.hid (HCC.out wr C capc HWT.out hkz)
      have HF := Lib.hid (repW_snoc k bs)
      have hac : (repW k bs).length + bs.length ≤ 100000000000 := by
        have h3 : (repW (k + 1) bs).length ≤ 8192 := by
          rw [rep_len]
          exact Nat.le_trans (Nat.mul_le_mul_right _ (by omega)) HTT.out
        rw [repW_snoc, List.length_append] at h3
        omega
      have HAC := Lib.hid hac
      clear hkz HX HWT hac
      unfold ndV at HC
      generalize repW k bs = acc at *
      go_wp2_with fail
      refine HC.out.mono ?_
      rintro e w4 ⟨A4, k4, rfl, hA4, hb4, _⟩
      have hR4 := own_below HR.out hb4
      have hws : w.heap.size + 1 ≤ wr.heap.size := by omega
      have HW4 := Lib.hid (HW.out.trans (hb4.mono hws))
      obtain ⟨v5, w5, hrun, hown5, hgrow5⟩ := append_own_bytes w4 (w.heap.size + 1) u3 acc hR4 k4 hA4 HAC.out (by have := hb4.size; omega) 30 30 Tryz.underlying30
      have HR5 := Lib.hid hown5
      have HW5 := Lib.hid (below_grown HW4.out hgrow5 hR4 (Nat.le_refl _) (by have := hb4.size; omega))
      clear hR4 hown5 hgrow5 hA4 hb4 HC HR HW HW4 c0 c1 c2 c3 c4 c5 c6 c7 n5 n6 hlx hws
      dsimp only
      go_wp2_with (at_builtin; refine wpList_append_by rfl _ _ 30 30 rfl _ _ _ _ rfl rfl hrun ?_)
      clear hrun
      go_light
      go_roundw
      case rel => exact ⟨k + 1, by go_num, by omega, Lib.hid (by rw [HF.out]; exact HR5.out), HW5⟩
      case measure => simp [intOf]; omega
    · have hdl : ¬ (k : Int) < (n : Int) := by omega
      obtain rfl : k = n := by omega
      have h6 := H256.out k
      have hfl : (repW k bs).length ≤ 8192 := by rw [rep_len]; exact HTT.out
      generalize repW k bs = fw at *
      obtain ⟨A5, cap5, rfl, h5, h7⟩ := own_bytesat HR.out h6 (by omega)
      have HN5 := Lib.hid (show ∀ a, A5 = some a → w.heap.size ≤ a.block from fun a e => by have := h7 a e; omega)
      clear h7
      have HA5 := Lib.hid h5
      clear HR h5 h6
      go_wp2
      go_light
      go_ret
      exact ⟨A5, cap5, rfl, HA5.out, HWT.out, fun _ => HN5.out⟩

/-! Are all lengths on the way small? -/
def Trees.smallB : Trees → Bool
  | .nil => true
  | .cons k s ks lo hi r => (ks.smallB && decide ((ofF k s lo hi ks.sums).short ≤ 2000)) && r.smallB
def Nd.smallB (x : Nd) : Bool := x.kids.smallB && decide (x.sum.short ≤ 2000)
theorem Trees.smallB_list : ∀ F : Trees, F.smallB = F.list.all Nd.smallB
  | .nil => rfl
  | .cons k s ks lo hi r => by rw [Trees.smallB, Trees.list, List.all_cons, Trees.smallB_list r]; rfl
theorem smallB_get {F : Trees} {k : Nat} {z : Nd} (h : F.smallB = true) (hz : F.list[k]? = some z) : z.smallB = true := by
  rw [F.smallB_list, List.all_eq_true] at h
  exact h z (List.mem_of_getElem? hz)
theorem smallB_short {z : Nd} (h : z.smallB = true) : z.sum.short ≤ 2000 := by
  unfold Nd.smallB at h
  rw [Bool.and_eq_true] at h
  exact of_decide_eq_true h.2
theorem smallB_kids {z : Nd} (h : z.smallB = true) : z.kids.smallB = true := by
  unfold Nd.smallB at h
  rw [Bool.and_eq_true] at h
  exact h.1
def RSmC (n : Nat) : Prop := ∀ (x : Nd) (P : Nat → Prop) (B : Option Addr) (cap : Nat) (w : World), x.size ≤ n → x.size ≤ 2000000 → (∀ y ∈ x.nodes, aloneN y = true) → TreesAt w P x.kids B →
  Calls Tryz.prog 64 #[ndV x B cap, .int .i64 2000] w fun e w' => e = .returned (.bool x.smallB) ∧ Below w.heap.size w w'
set_option maxHeartbeats 4000000 in
theorem rsm_step {n : Nat} (ih : RSmC n) : RSmC (n + 1) := by
  intro x P B cap w hsz hlen ho ht
  have hlk : x.kids.len ≤ 2000000 := by have := Trees.len_size x.kids; unfold Nd.size at hlen; omega
  have hks : x.kids.size + 1 = x.size := by unfold Nd.size; omega
  have HG := Lib.hid (fun (k : Nat) (z : Nd) (hz : x.kids.list[k]? = some z) (W : World) (C : Option Addr) (c : Nat) (h : TreesAt W P z.kids C) => by
    have := Trees.size_get x.kids k z hz
    exact ih z P C c W (by omega) (by omega) (fun y hy => ho y (kid_nodes hz y hy)) h)
  have hb : Below w.heap.size w (w.alloc (.cells #[.int .i64 x.kind, .int .u64 ((word (x.set.testBit) 0 : Nat) : Int), .int .u64 ((word (x.set.testBit) 1 : Nat) : Int), .int .u64 ((word (x.set.testBit) 2 : Nat) : Int), .int .u64 ((word (x.set.testBit) 3 : Nat) : Int), .slice B x.kids.len cap, .int .i64 x.lo, .int .i64 x.hi] 28)) := (Below.refl _ _).alloc (Nat.le_refl _) _
  have HB := Lib.hid hb
  have HN := Lib.hid (Blk.new w 28 #[.int .i64 x.kind, .int .u64 ((word (x.set.testBit) 0 : Nat) : Int), .int .u64 ((word (x.set.testBit) 1 : Nat) : Int), .int .u64 ((word (x.set.testBit) 2 : Nat) : Int), .int .u64 ((word (x.set.testBit) 3 : Nat) : Int), .slice B x.kids.len cap, .int .i64 x.lo, .int .i64 x.hi])
  have HT := Lib.hid ht
  have HS := Lib.hid (fun (W : World) (h : TreesAt W P x.kids B) => rshort_go x P B cap W (by omega) ho h)
  have HFl := Lib.hid (Trees.len_list x.kids)
  have HV := Lib.hid (show x.smallB = (x.kids.list.all Nd.smallB && decide (x.sum.short ≤ 2000)) by show (x.kids.smallB && decide (x.sum.short ≤ 2000)) = _; rw [Trees.smallB_list])
  clear hb ht ho ih hsz hlen hks
  unfold ndV at HS ⊢
  generalize x.kids.len = fl at *
  go_enter Tryz.func64, Tryz.ntmps64
  go_upto_region 1 with fail
  generalize w.alloc (.cells #[.int .i64 x.kind, .int .u64 ((word (x.set.testBit) 0 : Nat) : Int), .int .u64 ((word (x.set.testBit) 1 : Nat) : Int), .int .u64 ((word (x.set.testBit) 2 : Nat) : Int), .int .u64 ((word (x.set.testBit) 3 : Nat) : Int), .slice B fl cap, .int .i64 x.lo, .int .i64 x.hi] 28) = w2 at *
  go_wp2
  go_loopw [5] (fun i wr => ∃ k : Nat, i = .int .i64 (k : Int) ∧ k ≤ fl ∧ Hid (∀ j z, j < k → x.kids.list[j]? = some z → z.smallB = true) ∧ Hid (Below w2.heap.size w2 wr)) (fun i _ => fl - (intOf i).toNat)
  case atStart => exact ⟨0, rfl, Nat.zero_le _, Lib.hid (fun j z h _ => absurd h (Nat.not_lt_zero _)), Lib.hid (Below.refl _ _)⟩
  case round =>
    obtain ⟨k, rfl, hk, HA, HW⟩ := hrel
    have HX := Lib.hid (HN.out.below HW.out HN.out.lt)
    have HWT := Lib.hid (show Below w.heap.size w wr from HB.out.trans (HW.out.mono HB.out.size))
    by_cases hlt : k < fl
    · have n5 := HX.out.cell 5
      have hlx := HX.out.lt
      simp only [List.getElem?_toArray, List.getElem?_cons_zero, List.getElem?_cons_succ] at n5
      obtain ⟨z, hz⟩ : ∃ z, x.kids.list[k]? = some z := ⟨_, List.getElem?_eq_getElem (by rw [HFl.out]; exact hlt)⟩
      obtain ⟨b, o, C, capc, rfl, _, _, ⟨c0, c1, c2, c3, c4, c5, c6, c7⟩, hkz⟩ := (HT.out.below HWT.out).get hz
      have hdl : (k : Int) < (fl : Int) := by omega
      have HC := Lib.hid (HG.out k z hz wr C capc hkz)
      have HZ := Lib.hid hz
      clear hz hkz
      unfold ndV at HC
      go_wp2_with fail
      refine HC.out.mono ?_
      rintro e w3 ⟨rfl, hb3⟩
      have HW3 := Lib.hid (HW.out.trans (hb3.mono HW.out.size))
      have HWT3 := Lib.hid (HWT.out.trans (hb3.mono HWT.out.size))
      clear hb3 HC c0 c1 c2 c3 c4 c5 c6 c7 n5 hlx HX
      cases hzs : z.smallB with
      | true =>
        have HX := Lib.hid hzs
        clear hzs
        dsimp only
        go_wp2
        go_light
        go_roundw
        case rel => exact ⟨k + 1, by go_num, by omega, Lib.hid (fun j y hj hy => by
          rcases Nat.lt_or_ge j k with h | h
          · exact HA.out j y h hy
          · obtain rfl : j = k := by omega
            rw [HZ.out] at hy
            cases hy
            exact HX.out), HW3⟩
        case measure => simp [intOf]; omega
      | false =>
        have HX := Lib.hid (show x.smallB = false by
          rw [HV.out, Bool.and_eq_false_iff]
          refine .inl (List.all_eq_false.2 ⟨z, List.mem_of_getElem? HZ.out, by rw [hzs]; decide⟩))
        clear hzs
        dsimp only
        go_wp2
        go_light
        go_ret
        exact ⟨by rw [HX.out]; rfl, HWT3.out⟩
    · obtain rfl : k = fl := by omega
      have hdl : ¬ ((k : Int) < (k : Int)) := by omega
      have HX2 := Lib.hid (show x.smallB = decide (x.sum.short ≤ 2000) by
        rw [HV.out, show x.kids.list.all Nd.smallB = true from List.all_eq_true.2 (fun y hy => by
          obtain ⟨j, hj⟩ := List.getElem?_of_mem hy
          exact HA.out j y (by have := (List.getElem?_eq_some_iff.1 hj).1; rw [HFl.out] at this; exact this) hj), Bool.true_and])
      have HC := Lib.hid (HS.out wr (HT.out.below HWT.out))
      obtain ⟨n0, n1, n2, n3, n4, n5, n6, n7⟩ := ((HX.out)).c8r
      have hln := (HX.out).lt
      generalize x.sum.short = sh at *
      go_wp2_with fail
      refine HC.out.mono ?_
      rintro e w3 ⟨rfl, hb3⟩
      have HWT3 := Lib.hid (HWT.out.trans (hb3.mono HWT.out.size))
      clear n0 n1 n2 n3 n4 n5 n6 n7 hln
      clear hb3 HC
      dsimp only
      go_wp2
      go_light
      go_ret
      exact ⟨by rw [HX2.out]; rfl, HWT3.out⟩
theorem rsmall_go (x : Nd) (P : Nat → Prop) (B : Option Addr) (cap : Nat) (w : World) (hlen : x.size ≤ 2000000) (ho : ∀ y ∈ x.nodes, aloneN y = true) (ht : TreesAt w P x.kids B) :
    Calls Tryz.prog 64 #[ndV x B cap, .int .i64 2000] w fun e w' => e = .returned (.bool x.smallB) ∧ Below w.heap.size w w' := by
  have h : ∀ n, RSmC n := by
    intro n
    induction n with
    | zero => exact fun x _ _ _ _ h => by unfold Nd.size at h; omega
    | succ n ih => exact rsm_step ih
  exact h x.size x P B cap w (Nat.le_refl _) hlen ho ht
def RlC (n : Nat) : Prop := ∀ (x : Nd) (P : Nat → Prop) (B : Option Addr) (cap : Nat) (w : World), x.size ≤ n → x.size ≤ 2000000 → (∀ y ∈ x.nodes, aloneN y = true) → x.sum.hollow = false → x.smallB = true → TreesAt w P x.kids B →
  Calls Tryz.prog 65 #[ndV x B cap] w (WordOut x.least w)
theorem rl_step {n : Nat} (ih : RlC n) : RlC (n + 1) := by
  intro x P B cap w hsz hlen ho hh hsm ht
  have hlk : x.kids.len ≤ 2000000 := by have := Trees.len_size x.kids; unfold Nd.size at hlen; omega
  have hks : x.kids.size + 1 = x.size := by unfold Nd.size; omega
  have h2 := smallB_short hsm
  have hskid := smallB_kids hsm
  have hG : KidRl x.kids P w := fun i z C capc W hz h3 hW ht' => by
    have := Trees.size_get x.kids i z hz
    exact ih z _ C capc W (by omega) (by omega) (fun y hy => ho y (kid_nodes hz y hy)) h3 (smallB_get hskid hz) ht'
  have hko : ∀ y ∈ x.kids.nodes, aloneN y = true := fun y hy => ho y (by simp [Nd.nodes, hy])
  have hS := ok_sums x.kids hko
  obtain ⟨a1, a9, a0, ak1, ak9⟩ := aloneN_kids (ho x (self_nodes x))
  have hxl := least_len ho hh h2
  by_cases k1 : x.kind = 1
  · rw [sum_none k1] at hh; cases hh
  by_cases k2 : x.kind = 2
  · have : x.least = [] := by unfold Nd.least leastP; simp [k2]
    rw [this]; exact rl_nil2 x k2 B cap w
  by_cases k3 : x.kind = 3
  · have hns : isNoSet x.set = false := by
      cases h : isNoSet x.set with
      | false => rfl
      | true => rw [sum_set k3, if_pos h] at hh; cases hh
    obtain ⟨c, l, he, hc⟩ := elems_full hns
    have : x.least = [c] := by unfold Nd.least leastP; rw [if_pos k3, he]; rfl
    rw [this]; exact rl_leaf x c l k3 he hc B cap w
  by_cases k4 : x.kind = 4
  · have e : x.least = x.kids.leasts.flatten := by unfold Nd.least leastP; rw [if_neg (by omega), if_pos k4]
    rw [sum_cat k4] at hh h2
    obtain ⟨_, _, hp⟩ := cat_mono x.kids.sums fnilF ok_nil hS hh h2
    rw [e] at hxl ⊢
    rw [sum_cat k4] at hxl
    exact rl_cat x k4 hlk (fun i z hz => (hp _ (List.mem_of_getElem? (sums_getW hz))).1) (by omega) P B cap w ht hG
  by_cases k5 : x.kind = 5
  · have e : x.least = minW (rpick x.kids.sums x.kids.leasts) := by
      rw [alt_same (leasts_len x.kids hko) hS (by rw [sum_alt k5] at hh; exact hh) (fun s hs => by
        rw [Trees.sums_list] at hs
        obtain ⟨z, hz, rfl⟩ := List.mem_map.1 hs
        rw [Trees.smallB_list, List.all_eq_true] at hskid
        exact smallB_short (hskid z hz))]
      unfold Nd.least leastP; rw [if_neg (by omega), if_neg (by omega), if_pos k5]
    rw [e]
    exact rl_alt x k5 hlk (by omega) ho P B cap w ht hG
  obtain ⟨z, hzl, hz⟩ := one_kid (a1 (by omega) (by omega))
  have hk1 := a1 (by omega) (by omega)
  have hzo : ∀ y ∈ z.nodes, aloneN y = true := fun y hy => ho y (kid_nodes hz y hy)
  have hzok := ok_sum hzo
  by_cases k6 : x.kind = 6
  · have : x.least = [] := by unfold Nd.least leastP; simp [k6]
    rw [this]; exact rl_nil6 x k6 B cap w
  by_cases k7 : x.kind = 7
  · have e : x.least = z.least := by show leastP x.kind x.set x.lo x.kids.sums x.kids.leasts = z.least; unfold leastP; rw [if_neg (by omega), if_neg (by omega), if_neg (by omega), if_pos k7, Trees.leasts_head hz]
    rw [sum_plus k7 hz] at hh h2
    obtain ⟨h3, h4, h5⟩ := repeated_small hzok (by decide) (by decide) hh h2 (by decide)
    rw [e]
    exact rl_plus x z _ k7 hz hk1 P B cap w ht fun W C capc hW ht' => hG 0 z C capc W hz h3 hW ht'
  by_cases k8 : x.kind = 8
  · have : x.least = [] := by unfold Nd.least leastP; simp [k8]
    rw [this]; exact rl_nil8 x k8 B cap w
  have k9 : x.kind = 9 := by omega
  obtain ⟨b1, b2, b3, b4⟩ := nine_of (ho x (self_nodes x)) k9
  by_cases h : x.sum.short = 0
  · have : x.least = [] := List.length_eq_zero_iff.1 (by omega)
    rw [this]
    exact rl_rep0 x x.lo.toNat k9 (by omega) h (by omega) ho P B cap w ht
  · have e : x.least = repW x.lo.toNat z.least := by show leastP x.kind x.set x.lo x.kids.sums x.kids.leasts = _; unfold leastP repW; rw [if_neg (by omega), if_neg (by omega), if_neg (by omega), if_neg (by omega), if_pos k9, Trees.leasts_head hz]
    obtain ⟨f1, f2, f3⟩ := hiF_ok b1 b2 b3 b4
    have hl0 : x.lo ≠ 0 := fun h0 => by
      apply h
      rw [sum_rep k9 hz, h0, rep_short0]
    rw [sum_rep k9 hz] at hh
    have h2' := h2
    rw [sum_rep k9 hz] at h2'
    obtain ⟨h3, h4, h5⟩ := repeated_small hzok (by omega) f1 hh h2' f3
    have hxl' : x.least.length = x.lo.toNat * z.least.length := by rw [e, rep_len]
    rw [e]
    exact rl_rep1 x z x.lo.toNat k9 (by omega) h (by omega) hz hk1 (by omega) (by omega) ho P B cap w ht fun W C capc hW ht' => hG 0 z C capc W hz h3 hW ht'
theorem rlst_go (x : Nd) (P : Nat → Prop) (B : Option Addr) (cap : Nat) (w : World) (hlen : x.size ≤ 2000000) (ho : ∀ y ∈ x.nodes, aloneN y = true) (hh : x.sum.hollow = false) (h2 : x.smallB = true) (ht : TreesAt w P x.kids B) :
    Calls Tryz.prog 65 #[ndV x B cap] w (WordOut x.least w) := by
  have h : ∀ n, RlC n := by
    intro n
    induction n with
    | zero => exact fun x _ _ _ _ h => by unfold Nd.size at h; omega
    | succ n ih => exact rl_step ih
  exact h x.size x P B cap w (Nat.le_refl _) hlen ho hh h2 ht
end Go.Proofs.YtfekpkelmliejaaGreatDoor
