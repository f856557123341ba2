/-
  The contract of the program's reader of chars. The contract of class.Escape. The contract of the program's reader of items. How many bits of a number of 64 bits are set: the sum in parallel, byte by byte. No program in sight. The contracts of bits.OnesCount64 and sets.Count. What every proof of a plain row of this seat wants: an argument that is a slice of bytes. What every proof of a plain row wants: an argument that is a slice of lexemes. What every proof of a row wants whose arguments are trees: a slice of trees that came in, and how many nodes they have. Sums and products that stop at a top: num.Add, num.Mul (of two) and the reference's, at the top 2^40. tree.walk and tree.nodes: the iterator over the nodes of a tree that may be, each ahead of its kids. tree.walk and tree.nodes at any tree: the iterator over the nodes, each ahead of its kids. tree.Right: a tree that may be. tree.Right at any tree. How many states trees take: the plain number, and the contracts of nfa.sum, nfa.times, nfa.Weight, nfa.Size.
-/
import Derived.Test.YtchfipjclbpomaaGreatRows
import Derived.WalkKit
import Derived.ProofKit
import Derived.OpenShut
import Derived.ShutString
import Derived.ChangeOld
import Derived.SizedLaws
import Derived.Lib.Hide
import Derived.Deep.Light
import Derived.RangeFuncNested
import Derived.RangeFuncBound
import Derived.RangeFuncCalls
import Derived.RangeFuncLeaves
import Derived.Shelf.Abstract
import Derived.Shelf.RegionOpen
import Derived.OwnWalkIn
import Derived.TacticsInMore
import Derived.LoopNIn
import Derived.LoopIn
import Derived.RangeFuncBox
import Derived.Test.YtchfipjclbpomaaGreatQEscapeX
import Derived.Test.YtchfipjclbpomaaGreatQRefEsc
import Derived.Test.YtchfipjclbpomaaGreatQZ01
import Derived.Test.YtchfipjclbpomaaGreatQZ02
namespace Go.Proofs.YtchfipjclbpomaaGreat
open Go.RowKit
set_option linter.unusedSimpArgs false
set_option linter.unusedVariables false
set_option maxRecDepth 100000

theorem special_is (c : Nat) (v : Bool) (w : World) (h1 : c < 256) (h : isSpecial c = v) :
    Calls Tryz.prog 103 #[.int .u8 (c : Int)] w fun e w' => e = .returned (.bool v) ∧ w = w' :=
  (special_go c w (by omega) (by omega)).mono fun _ _ q => by rw [Int.toNat_natCast, h] at q; exact q

/-- What the reader of a char leaves behind. -/
def CharPost (g : Nat) (A : Option Addr) (cap : Nat) (bs : List Nat) (i s : Nat) (w : World) (e : Ending) (w' : World) : Prop :=
  w.grownBy w' (some g) ∧
  match charS bs s i with
  | .ok (c, j) => e = .returned (.int .u8 (c : Int)) ∧ Rd w' g A cap bs (j : Int) (s : Int) 0 0
  | .error (k, p) => k ≠ 0 ∧ ∃ c j : Nat, c < 256 ∧ e = .returned (.int .u8 (c : Int)) ∧ Rd w' g A cap bs (j : Int) (s : Int) k p
theorem CharPost.yes {g : Nat} {A : Option Addr} {cap : Nat} {bs : List Nat} {i s : Nat} {w : World} {e : Ending} {w' : World} {c j : Nat} (hg : w.grownBy w' (some g)) (hs : charS bs s i = .ok (c, j))
    (he : e = .returned (.int .u8 (c : Int))) (hr : Rd w' g A cap bs (j : Int) (s : Int) 0 0) : CharPost g A cap bs i s w e w' := by
  unfold CharPost; rw [hs]; exact ⟨hg, he, hr⟩
theorem CharPost.no {g : Nat} {A : Option Addr} {cap : Nat} {bs : List Nat} {i s : Nat} {w : World} {e : Ending} {w' : World} {k p : Int} (c j : Nat) (hg : w.grownBy w' (some g)) (hs : charS bs s i = .error (k, p)) (hk : k ≠ 0)
    (hc : c < 256) (he : e = .returned (.int .u8 (c : Int))) (hr : Rd w' g A cap bs (j : Int) (s : Int) k p) : CharPost g A cap bs i s w e w' := by
  unfold CharPost; rw [hs]; exact ⟨hg, hk, c, j, hc, he, hr⟩

set_option maxHeartbeats 2000000 in
theorem char_end (g : Nat) (A : Option Addr) (cap : Nat) (bs : List Nat) (i s : Nat) (B : Nat) (w : World) (hr : Rd w g A cap bs (i : Int) (s : Int) 0 0) (hA : BytesAt w B A bs) (hB : B ≤ g) (h : bs.length = i) : Calls Tryz.prog 100 #[.pointer (some ⟨g, 0, none⟩)] w (CharPost g A cap bs i s w) := by
  obtain ⟨c0, c1, c2, c3, c4, f1, f3, f4⟩ := hr.cells
  have Hr := Lib.hid hr
  have HA := Lib.hid hA
  have Hl := Lib.hid hA.2.1
  have hl := hA.2.1
  have Hh := Lib.hid h
  have hz : ((bs.length : Int) - (i : Int) == 0) = true := by simp; omega
  have hi : i ≤ bs.length := by omega
  clear hr hA h
  go_enter Tryz.func100, Tryz.ntmps100
  go_wp2_with fail
  with_reducible refine (left_go g A cap bs _ _ 0 0 _ Hr.out Hl.out (by omega) (by omega)).mono ?_
  rintro e w1 ⟨rfl, n1, rfl⟩
  go_wp2_with (go_at_call 97; refine (fail0_go g A cap bs _ _ 0 _ _ _ (Hr.out.drewN n1)).mono ?_; rintro e w2 ⟨rfl, hr2, hg2⟩)
  go_light
  go_ret
  exact CharPost.no 0 i (only_trans (only_drewN (only_refl _ _) _) hg2) (charS_end (by have := Hh.out; omega)) (by decide) (by decide) rfl hr2

set_option maxHeartbeats 2000000 in
theorem char_esc (g : Nat) (A : Option Addr) (cap : Nat) (bs : List Nat) (i s : Nat) (B : Nat) (w : World) (hr : Rd w g A cap bs (i : Int) (s : Int) 0 0) (hA : BytesAt w B A bs) (hB : B ≤ g) (h : i < bs.length) (hc : byteAt bs i = 92) : Calls Tryz.prog 100 #[.pointer (some ⟨g, 0, none⟩)] w (CharPost g A cap bs i s w) := by
  obtain ⟨c0, c1, c2, c3, c4, f1, f3, f4⟩ := hr.cells
  have Hr := Lib.hid hr
  have HA := Lib.hid hA
  have Hl := Lib.hid hA.2.1
  have hl := hA.2.1
  have hz : ((bs.length : Int) - (i : Int) == 0) = false := by simp; omega
  have hp0 : (0 : Int) ≤ (i : Int) := by omega
  have hp1 : (i : Int) < (bs.length : Int) := by omega
  have hbt := byteAt_lt hA.1 i
  have hat := hasAt_in (bs := bs) 92 h
  obtain ⟨b, o, rfl, hbB, hcell⟩ := hA.2.2 (by omega)
  have hx := hcell i (by omega)
  have hbg : b ≠ g := by omega
  obtain ⟨c, hk⟩ : ∃ c, byteAt bs i = c := ⟨_, rfl⟩
  rw [hk] at hx hbt hat
  have Hk := Lib.hid hk
  have hb : hasAt bs (i : Int) 92 = true := by rw [hat]; simp; omega
  have Hc := Lib.hid hc
  clear hr hA hcell hk hat hc
  cases he : escS bs i with
  | none =>
    have He := Lib.hid he
    clear he
    go_enter Tryz.func100, Tryz.ntmps100
    go_wp2_with fail
    with_reducible refine (left_go g (some ⟨b, o, none⟩) cap bs _ _ 0 0 _ Hr.out Hl.out (by omega) (by omega)).mono ?_
    rintro e w1 ⟨rfl, n1, rfl⟩
    go_wp2_with fail
    with_reducible refine (here_go g (some ⟨b, o, none⟩) cap bs (i : Int) _ _ _ _ B _ (Hr.out.drewN n1) (HA.out.drewN n1) (by omega) (by omega)).mono ?_
    rintro e w2 ⟨rfl, n2, rfl⟩
    go_wp2_with (go_at_call 87; refine (escape_go g (some ⟨b, o, none⟩) cap bs i _ B _ (Hr.out.drewN (n1 + n2)) (HA.out.drewN (n1 + n2)) hB h).mono ?_; rintro e w3 hp; unfold EscPost at hp; rw [He.out] at hp; obtain ⟨hg3, c', j', hc', rfl, hr3⟩ := hp)
    go_light
    go_ret
    exact CharPost.no c' j' (only_trans (only_drewN (only_refl _ _) _) hg3) (charS_bad h Hc.out He.out) (by decide) hc' rfl hr3
  | some x =>
    obtain ⟨c', j'⟩ := x
    have He := Lib.hid he
    clear he
    go_enter Tryz.func100, Tryz.ntmps100
    go_wp2_with fail
    with_reducible refine (left_go g (some ⟨b, o, none⟩) cap bs _ _ 0 0 _ Hr.out Hl.out (by omega) (by omega)).mono ?_
    rintro e w1 ⟨rfl, n1, rfl⟩
    go_wp2_with fail
    with_reducible refine (here_go g (some ⟨b, o, none⟩) cap bs (i : Int) _ _ _ _ B _ (Hr.out.drewN n1) (HA.out.drewN n1) (by omega) (by omega)).mono ?_
    rintro e w2 ⟨rfl, n2, rfl⟩
    go_wp2_with (go_at_call 87; refine (escape_go g (some ⟨b, o, none⟩) cap bs i _ B _ (Hr.out.drewN (n1 + n2)) (HA.out.drewN (n1 + n2)) hB h).mono ?_; rintro e w3 hp; unfold EscPost at hp; rw [He.out] at hp; obtain ⟨hg3, rfl, hr3⟩ := hp)
    go_light
    go_ret
    exact CharPost.yes (only_trans (only_drewN (only_refl _ _) _) hg3) (charS_esc h Hc.out He.out) rfl hr3

set_option maxHeartbeats 2000000 in
theorem char_special (g : Nat) (A : Option Addr) (cap : Nat) (bs : List Nat) (i s : Nat) (B : Nat) (w : World) (hr : Rd w g A cap bs (i : Int) (s : Int) 0 0) (hA : BytesAt w B A bs) (hB : B ≤ g) (h : i < bs.length) (hc : byteAt bs i ≠ 92) (hs : isSpecial (byteAt bs i) = true) : Calls Tryz.prog 100 #[.pointer (some ⟨g, 0, none⟩)] w (CharPost g A cap bs i s w) := by
  obtain ⟨c0, c1, c2, c3, c4, f1, f3, f4⟩ := hr.cells
  have Hr := Lib.hid hr
  have HA := Lib.hid hA
  have Hl := Lib.hid hA.2.1
  have hl := hA.2.1
  have hz : ((bs.length : Int) - (i : Int) == 0) = false := by simp; omega
  have hp0 : (0 : Int) ≤ (i : Int) := by omega
  have hp1 : (i : Int) < (bs.length : Int) := by omega
  have hbt := byteAt_lt hA.1 i
  have hat := hasAt_in (bs := bs) 92 h
  obtain ⟨b, o, rfl, hbB, hcell⟩ := hA.2.2 (by omega)
  have hx := hcell i (by omega)
  have hbg : b ≠ g := by omega
  obtain ⟨c, hk⟩ : ∃ c, byteAt bs i = c := ⟨_, rfl⟩
  rw [hk] at hx hbt hat
  have Hk := Lib.hid hk
  rw [hk] at hs
  have hb : hasAt bs (i : Int) 92 = false := by rw [hat]; simp; omega
  have Hc := Lib.hid hc
  clear hr hA hcell hk hat hc
  go_enter Tryz.func100, Tryz.ntmps100
  go_wp2_with fail
  with_reducible refine (left_go g (some ⟨b, o, none⟩) cap bs _ _ 0 0 _ Hr.out Hl.out (by omega) (by omega)).mono ?_
  rintro e w1 ⟨rfl, n1, rfl⟩
  go_wp2_with fail
  with_reducible refine (here_go g (some ⟨b, o, none⟩) cap bs (i : Int) _ _ _ _ B _ (Hr.out.drewN n1) (HA.out.drewN n1) (by omega) (by omega)).mono ?_
  rintro e w2 ⟨rfl, n2, rfl⟩
  go_wp2
  go_quiet ((go_at_call 103; exact quiet_add_left (special_is c true _ hbt hs)))
  go_wp2_with (go_at_call 97; refine (fail0_go g (some ⟨b, o, none⟩) cap bs _ _ 0 _ _ _ (Hr.out.drewN _)).mono ?_; rintro e w2 ⟨rfl, hr2, hg2⟩)
  go_light
  go_ret
  exact CharPost.no 0 i (only_trans (only_drewN (only_refl _ _) _) hg2) (charS_special h Hc.out (by rw [Hk.out]; exact hs)) (by decide) (by decide) rfl hr2

set_option maxHeartbeats 2000000 in
theorem char_self (g : Nat) (A : Option Addr) (cap : Nat) (bs : List Nat) (i s : Nat) (B : Nat) (w : World) (hr : Rd w g A cap bs (i : Int) (s : Int) 0 0) (hA : BytesAt w B A bs) (hB : B ≤ g) (h : i < bs.length) (hc : byteAt bs i ≠ 92) (hs : isSpecial (byteAt bs i) = false) : Calls Tryz.prog 100 #[.pointer (some ⟨g, 0, none⟩)] w (CharPost g A cap bs i s w) := by
  obtain ⟨c0, c1, c2, c3, c4, f1, f3, f4⟩ := hr.cells
  have Hr := Lib.hid hr
  have HA := Lib.hid hA
  have Hl := Lib.hid hA.2.1
  have hl := hA.2.1
  have hz : ((bs.length : Int) - (i : Int) == 0) = false := by simp; omega
  have hp0 : (0 : Int) ≤ (i : Int) := by omega
  have hp1 : (i : Int) < (bs.length : Int) := by omega
  have hbt := byteAt_lt hA.1 i
  have hat := hasAt_in (bs := bs) 92 h
  obtain ⟨b, o, rfl, hbB, hcell⟩ := hA.2.2 (by omega)
  have hx := hcell i (by omega)
  have hbg : b ≠ g := by omega
  obtain ⟨c, hk⟩ : ∃ c, byteAt bs i = c := ⟨_, rfl⟩
  rw [hk] at hx hbt hat
  have Hk := Lib.hid hk
  rw [hk] at hs
  have hb : hasAt bs (i : Int) 92 = false := by rw [hat]; simp; omega
  have Hc := Lib.hid hc
  clear hr hA hcell hk hat hc
  go_enter Tryz.func100, Tryz.ntmps100
  go_wp2_with fail
  with_reducible refine (left_go g (some ⟨b, o, none⟩) cap bs _ _ 0 0 _ Hr.out Hl.out (by omega) (by omega)).mono ?_
  rintro e w1 ⟨rfl, n1, rfl⟩
  go_wp2_with fail
  with_reducible refine (here_go g (some ⟨b, o, none⟩) cap bs (i : Int) _ _ _ _ B _ (Hr.out.drewN n1) (HA.out.drewN n1) (by omega) (by omega)).mono ?_
  rintro e w2 ⟨rfl, n2, rfl⟩
  go_wp2
  go_quiet ((go_at_call 103; exact quiet_add_left (special_is c false _ hbt hs)))
  go_wp2_with fail
  go_quiet (fail)
  go_wp2
  go_light
  go_ret
  exact CharPost.yes (only_drewN (only_set (only_drewN (only_refl _ _) _) _ _) _) (charS_self h Hc.out (by rw [Hk.out]; exact hs)) (by rw [Hk.out]; rfl) ((Hr.out.drewN _).move _)

theorem char_go (g : Nat) (A : Option Addr) (cap : Nat) (bs : List Nat) (i s : Nat) (B : Nat) (w : World) (hr : Rd w g A cap bs (i : Int) (s : Int) 0 0) (hA : BytesAt w B A bs) (hB : B ≤ g) (hi : i ≤ bs.length) : Calls Tryz.prog 100 #[.pointer (some ⟨g, 0, none⟩)] w (CharPost g A cap bs i s w) := by
  by_cases h0 : bs.length = i
  · exact char_end g A cap bs i s B w hr hA hB h0
  by_cases h1 : byteAt bs i = 92
  · exact char_esc g A cap bs i s B w hr hA hB (by omega) h1
  cases h2 : isSpecial (byteAt bs i)
  · exact char_self g A cap bs i s B w hr hA hB (by omega) h1 h2
  · exact char_special g A cap bs i s B w hr hA hB (by omega) h1 h2

end Go.Proofs.YtchfipjclbpomaaGreat
namespace Go.Proofs.YtchfipjclbpomaaGreat
open Go.RowKit
set_option linter.unusedSimpArgs false
set_option linter.unusedVariables false
set_option maxRecDepth 100000

/-- The two blocks that a call of Escape lays first: its result's and the reader. -/
def Laid2 (w : World) (A : Option Addr) (cap : Nat) (bs : List Nat) (i : Int) : World :=
  (w.alloc (.cells #[.int .i64 0, .int .i64 0] 45)).alloc (.cells #[.slice A bs.length cap, .int .i64 i, .int .i64 0, .int .i64 0, .int .i64 0] 120)
section
variable (w : World) (A : Option Addr) (cap : Nat) (bs : List Nat) (i : Int)
theorem Laid2.rd : Rd (Laid2 w A cap bs i) (w.heap.size + 1) A cap bs i 0 0 0 := Blk.new_at (by simp)
theorem Laid2.bad : Blk (Laid2 w A cap bs i) w.heap.size 45 #[.int .i64 0, .int .i64 0] := (Blk.new _ _ _).alloc _
theorem Laid2.below : Below w.heap.size w (Laid2 w A cap bs i) := ((Below.refl _ _).alloc (Nat.le_refl _) _).alloc (by simp) _
theorem Laid2.size : (Laid2 w A cap bs i).heap.size = w.heap.size + 1 + 1 := by simp [Laid2]
end

set_option maxHeartbeats 1000000 in
theorem esc_no (A : Option Addr) (cap : Nat) (bs : List Nat) (i : Int) (w : World) (hA : BytesAt w w.heap.size A bs) (h : hasAt bs i 92 = false) : Calls Tryz.prog 75 #[.slice A bs.length cap, .int .i64 i] w fun e w' => e = .returned (escVal bs i) ∧ Below w.heap.size w w' := by
  rw [escVal_no h]
  have HA := Lib.hid (hA.below (Laid2.below w A cap bs i))
  obtain ⟨b0, b1, x0, x1⟩ := (Laid2.bad w A cap bs i).c2
  have Hb := Lib.hid (Laid2.bad w A cap bs i)
  clear hA
  go_enter Tryz.func75, Tryz.ntmps75
  go_wp2_with fail
  refine (here_go (w.heap.size + 1) A cap bs _ _ _ _ 92 w.heap.size _ (Laid2.rd w A cap bs _) HA.out (by omega) (by omega)).mono ?_
  rintro e w1 ⟨rfl, n1, rfl⟩
  go_wp2
  go_light
  refine bodyPost_ret (ret_esc Tryz.results75 rfl rfl rfl (Hb.out.drewN n1).set2) rfl ⟨rfl, ?_⟩
  exact below_set2 (below_drewN (Laid2.below w A cap bs i) n1) (Nat.le_refl _) _ _

set_option maxHeartbeats 2000000 in
theorem esc_yes (A : Option Addr) (cap : Nat) (bs : List Nat) (i : Nat) (w : World) (hA : BytesAt w w.heap.size A bs) (h : hasAt bs (i : Int) 92 = true) (hi : i < bs.length) : Calls Tryz.prog 75 #[.slice A bs.length cap, .int .i64 (i : Int)] w fun e w' => e = .returned (escVal bs (i : Int)) ∧ Below w.heap.size w w' := by
  have HA := Lib.hid (hA.below (Laid2.below w A cap bs i))
  obtain ⟨b0, b1, x0, x1⟩ := (Laid2.bad w A cap bs i).c2
  have Hb := Lib.hid (Laid2.bad w A cap bs i)
  clear hA
  cases he : escS bs i with
  | none =>
    have HV := Lib.hid (escVal_none h he)
    have He := Lib.hid he
    clear he
    rw [HV.out]
    go_enter Tryz.func75, Tryz.ntmps75
    go_wp2_with fail
    refine (here_go (w.heap.size + 1) A cap bs _ _ _ _ 92 w.heap.size _ (Laid2.rd w A cap bs _) HA.out (by omega) (by omega)).mono ?_
    rintro e w1 ⟨rfl, n1, rfl⟩
    go_wp2_with (go_at_call 87; refine (escape_go (w.heap.size + 1) A cap bs i _ w.heap.size _ ((Laid2.rd w A cap bs _).drewN n1) (HA.out.drewN n1) (by omega) hi).mono ?_; rintro e w2 hp; unfold EscPost at hp; rw [He.out] at hp; obtain ⟨hg2, c', j', hc', rfl, hr2⟩ := hp; obtain ⟨c0, c1, c2, c3, c4, e1, e3, e4⟩ := hr2.cells; have hb2 := (Hb.out.drewN n1).grown hg2 (by simp); obtain ⟨r0, r1, r2, r3⟩ := hb2.c2; have Hb2 := Lib.hid hb2; have Hg2 := Lib.hid hg2; clear hb2 hg2 hr2)
    go_region
    all_goals go_wp2
    all_goals go_light
    refine bodyPost_ret (ret_esc Tryz.results75 rfl rfl rfl Hb2.out.set2.drew) rfl ⟨rfl, ?_⟩
    exact (below_set2 (below_only (below_drewN (Laid2.below w A cap bs i) n1) Hg2.out (by omega) (by simp [Laid2.size]; omega)) (Nat.le_refl _) _ _).drew
  | some x =>
    obtain ⟨c', j'⟩ := x
    have HV := Lib.hid (escVal_some h he)
    have He := Lib.hid he
    clear he
    rw [HV.out]
    go_enter Tryz.func75, Tryz.ntmps75
    go_wp2_with fail
    refine (here_go (w.heap.size + 1) A cap bs _ _ _ _ 92 w.heap.size _ (Laid2.rd w A cap bs _) HA.out (by omega) (by omega)).mono ?_
    rintro e w1 ⟨rfl, n1, rfl⟩
    go_wp2_with (go_at_call 87; refine (escape_go (w.heap.size + 1) A cap bs i _ w.heap.size _ ((Laid2.rd w A cap bs _).drewN n1) (HA.out.drewN n1) (by omega) hi).mono ?_; rintro e w2 hp; unfold EscPost at hp; rw [He.out] at hp; obtain ⟨hg2, rfl, hr2⟩ := hp; obtain ⟨c0, c1, c2, c3, c4, e1, e3, e4⟩ := hr2.cells; have hb2 := (Hb.out.drewN n1).grown hg2 (by simp); obtain ⟨r0, r1, r2, r3⟩ := hb2.c2; have Hb2 := Lib.hid hb2; have Hg2 := Lib.hid hg2; clear hb2 hg2 hr2)
    go_region
    all_goals go_wp2
    all_goals go_light
    refine bodyPost_ret (ret_esc Tryz.results75 rfl rfl rfl Hb2.out.set2.drew) rfl ⟨rfl, ?_⟩
    exact (below_set2 (below_only (below_drewN (Laid2.below w A cap bs i) n1) Hg2.out (by omega) (by simp [Laid2.size]; omega)) (Nat.le_refl _) _ _).drew

theorem esc_go (A : Option Addr) (cap : Nat) (bs : List Nat) (i : Int) (w : World) (hA : BytesAt w w.heap.size A bs) : Calls Tryz.prog 75 #[.slice A bs.length cap, .int .i64 i] w fun e w' => e = .returned (escVal bs i) ∧ Below w.heap.size w w' := by
  cases h : hasAt bs i 92 with
  | false => exact esc_no A cap bs i w hA h
  | true =>
    obtain ⟨i, rfl, hlt, _⟩ := hasAt_yes h
    exact esc_yes A cap bs i w hA h hlt

end Go.Proofs.YtchfipjclbpomaaGreat
namespace Go.Proofs.YtchfipjclbpomaaGreat
open Go.RowKit
set_option linter.unusedSimpArgs false
set_option linter.unusedVariables false
set_option maxRecDepth 100000

theorem Rd.alloc {w : World} {g : Nat} {A : Option Addr} {cap : Nat} {bs : List Nat} {i start kind place : Int} (h : Rd w g A cap bs i start kind place) (o : Obj) : Rd (w.alloc o) g A cap bs i start kind place := Blk.alloc h o
theorem Rd.below {w w' : World} {B g : Nat} {A : Option Addr} {cap : Nat} {bs : List Nat} {i start kind place : Int} (h : Rd w g A cap bs i start kind place) (hb : Below B w w') (hg : g < B) : Rd w' g A cap bs i start kind place := Blk.below h hb hg
theorem Rd.set4 {w : World} {g g' : Nat} {A : Option Addr} {cap : Nat} {bs : List Nat} {i start kind place : Int} (h : Rd w g A cap bs i start kind place) (hg : g ≠ g') (a b c d : Value) :
    Rd ((((w.setCell ⟨g', 0, none⟩ a).setCell ⟨g', 1, none⟩ b).setCell ⟨g', 2, none⟩ c).setCell ⟨g', 3, none⟩ d) g A cap bs i start kind place :=
  Blk.far (Blk.far (Blk.far (Blk.far h (by dsimp only; omega) _) (by dsimp only; omega) _) (by dsimp only; omega) _) (by dsimp only; omega) _
theorem only_set4 {a w : World} {g g' : Nat} (h : a.grownBy w (some g)) (hg : a.heap.size ≤ g') (x y z u : Value) :
    a.grownBy ((((w.setCell ⟨g', 0, none⟩ x).setCell ⟨g', 1, none⟩ y).setCell ⟨g', 2, none⟩ z).setCell ⟨g', 3, none⟩ u) (some g) :=
  only_set' (only_set' (only_set' (only_set' h hg _ _) hg _ _) hg _ _) hg _ _
theorem only_from {a b c : World} {g : Nat} (h : a.grownBy b (some g)) (k : b.grownBy c (some g)) : a.grownBy c (some g) := only_trans h k

/-- What the reader of an item leaves behind. -/
def ItemPost (g : Nat) (A : Option Addr) (cap : Nat) (bs : List Nat) (i s : Nat) (w : World) (e : Ending) (w' : World) : Prop :=
  w.grownBy w' (some g) ∧
  match itemS bs s i with
  | .ok (lo, hi, j) => e = .returned (.agg #[.int .u64 ((word (between lo hi) 0 : Nat) : Int), .int .u64 ((word (between lo hi) 1 : Nat) : Int), .int .u64 ((word (between lo hi) 2 : Nat) : Int), .int .u64 ((word (between lo hi) 3 : Nat) : Int)]) ∧ Rd w' g A cap bs (j : Int) (s : Int) 0 0
  | .error (k, p) => k ≠ 0 ∧ ∃ (q : Nat → Bool) (j : Nat), e = .returned (.agg #[.int .u64 ((word (q) 0 : Nat) : Int), .int .u64 ((word (q) 1 : Nat) : Int), .int .u64 ((word (q) 2 : Nat) : Int), .int .u64 ((word (q) 3 : Nat) : Int)]) ∧ Rd w' g A cap bs (j : Int) (s : Int) k p
theorem ItemPost.yes {g : Nat} {A : Option Addr} {cap : Nat} {bs : List Nat} {i s : Nat} {w : World} {e : Ending} {w' : World} {lo hi j : Nat} (hg : w.grownBy w' (some g)) (hs : itemS bs s i = .ok (lo, hi, j))
    (he : e = .returned (.agg #[.int .u64 ((word (between lo hi) 0 : Nat) : Int), .int .u64 ((word (between lo hi) 1 : Nat) : Int), .int .u64 ((word (between lo hi) 2 : Nat) : Int), .int .u64 ((word (between lo hi) 3 : Nat) : Int)])) (hr : Rd w' g A cap bs (j : Int) (s : Int) 0 0) : ItemPost g A cap bs i s w e w' := by
  unfold ItemPost; rw [hs]; exact ⟨hg, he, hr⟩
theorem ItemPost.no {g : Nat} {A : Option Addr} {cap : Nat} {bs : List Nat} {i s : Nat} {w : World} {e : Ending} {w' : World} {k p : Int} (q : Nat → Bool) (j : Nat) (hg : w.grownBy w' (some g)) (hs : itemS bs s i = .error (k, p)) (hk : k ≠ 0)
    (he : e = .returned (.agg #[.int .u64 ((word (q) 0 : Nat) : Int), .int .u64 ((word (q) 1 : Nat) : Int), .int .u64 ((word (q) 2 : Nat) : Int), .int .u64 ((word (q) 3 : Nat) : Int)])) (hr : Rd w' g A cap bs (j : Int) (s : Int) k p) : ItemPost g A cap bs i s w e w' := by
  unfold ItemPost; rw [hs]; exact ⟨hg, hk, q, j, he, hr⟩

set_option maxHeartbeats 2000000 in
theorem item_bad1 (g : Nat) (A : Option Addr) (cap : Nat) (bs : List Nat) (i s : Nat) (B : Nat) (w : World) (hr : Rd w g A cap bs (i : Int) (s : Int) 0 0) (hA : BytesAt w B A bs) (hB : B ≤ g) (hi : i ≤ bs.length) (k p : Int) (he : charS bs s i = .error (k, p)) : Calls Tryz.prog 89 #[.pointer (some ⟨g, 0, none⟩)] w (ItemPost g A cap bs i s w) := by
  have hlt := hr.lt
  have hne : w.heap.size ≠ g := by omega
  obtain ⟨c0, c1, c2, c3, c4, f1, f3, f4⟩ := hr.cells
  have Hr := Lib.hid (hr.alloc (.cells #[.int .u64 0, .int .u64 0, .int .u64 0, .int .u64 0] 27))
  have HA : Hid (BytesAt (w.alloc (.cells #[.int .u64 0, .int .u64 0, .int .u64 0, .int .u64 0] 27)) B A bs) := hA.below ((Below.refl B w).alloc (by omega) _)
  have Hz : Hid (Blk (w.alloc (.cells #[.int .u64 0, .int .u64 0, .int .u64 0, .int .u64 0] 27)) w.heap.size 27 #[.int .u64 0, .int .u64 0, .int .u64 0, .int .u64 0]) := Blk.new _ _ _
  have Hg0 : Hid (w.grownBy (w.alloc (.cells #[.int .u64 0, .int .u64 0, .int .u64 0, .int .u64 0] 27)) (some g)) := only_alloc (only_refl _ _) _
  have Hl := Lib.hid hA.2.1
  have hl := hA.2.1
  clear hr hA
  have He := Lib.hid he
  have Hi : Hid (itemS bs s i = .error (k, p)) := by show itemS bs s i = _; unfold itemS; rw [he]
  clear he
  go_enter Tryz.func89, Tryz.ntmps89
  go_wp2_with fail
  with_reducible refine (char_go g A cap bs i s B _ Hr.out HA.out hB hi).mono ?_
  rintro e w1 hp
  unfold CharPost at hp
  rw [He.out] at hp
  obtain ⟨hg1, hk, c, j, hc, rfl, hr1⟩ := hp
  have hkb : (k == 0) = false := by simpa using hk
  obtain ⟨d0, d1, d2, d3, d4, e1, e3, e4⟩ := hr1.cells
  have Hr1 := Lib.hid hr1
  have Hg1 := Lib.hid hg1
  have hlt1 := hr1.lt
  have hsz : w.heap.size < w1.heap.size := by have := hg1.size; simp at this; omega
  clear hr1 hg1
  go_wp2_with (go_at_call 101; refine (span_any _ _ _ (by omega) (by omega)).mono ?_; rintro e w2 ⟨rfl, hb2⟩; obtain ⟨z0, z1, z2, z3, y0, y1, y2, y3⟩ := ((Hz.out.grown Hg1.out (by simpa using hne)).below hb2 hsz).c4)
  go_light
  refine bodyPost_ret (ret_set Tryz.results89 rfl ((Hz.out.grown Hg1.out (by simpa using hne)).below hb2 hsz).set4) rfl ?_
  exact ItemPost.no _ j (only_set4 (only_below (only_trans Hg0.out Hg1.out) hb2) (Nat.le_refl _) _ _ _ _) Hi.out hk rfl ((Hr1.out.below hb2 hlt1).set4 (by omega) _ _ _ _)

set_option maxHeartbeats 2000000 in
theorem item_one (g : Nat) (A : Option Addr) (cap : Nat) (bs : List Nat) (i s : Nat) (B : Nat) (w : World) (hr : Rd w g A cap bs (i : Int) (s : Int) 0 0) (hA : BytesAt w B A bs) (hB : B ≤ g) (hi : i ≤ bs.length) (lo j : Nat) (he : charS bs s i = .ok (lo, j)) (hlo : lo < 256) (hh : hasAt bs (j : Int) 45 = false) : Calls Tryz.prog 89 #[.pointer (some ⟨g, 0, none⟩)] w (ItemPost g A cap bs i s w) := by
  have hlt := hr.lt
  have hne : w.heap.size ≠ g := by omega
  obtain ⟨c0, c1, c2, c3, c4, f1, f3, f4⟩ := hr.cells
  have Hr := Lib.hid (hr.alloc (.cells #[.int .u64 0, .int .u64 0, .int .u64 0, .int .u64 0] 27))
  have HA : Hid (BytesAt (w.alloc (.cells #[.int .u64 0, .int .u64 0, .int .u64 0, .int .u64 0] 27)) B A bs) := hA.below ((Below.refl B w).alloc (by omega) _)
  have Hz : Hid (Blk (w.alloc (.cells #[.int .u64 0, .int .u64 0, .int .u64 0, .int .u64 0] 27)) w.heap.size 27 #[.int .u64 0, .int .u64 0, .int .u64 0, .int .u64 0]) := Blk.new _ _ _
  have Hg0 : Hid (w.grownBy (w.alloc (.cells #[.int .u64 0, .int .u64 0, .int .u64 0, .int .u64 0] 27)) (some g)) := only_alloc (only_refl _ _) _
  have Hl := Lib.hid hA.2.1
  have hl := hA.2.1
  clear hr hA
  have He := Lib.hid he
  have Hh := Lib.hid hh
  have Hi : Hid (itemS bs s i = .ok (lo, lo, j)) := by show itemS bs s i = _; unfold itemS; rw [he]; dsimp only; rw [hh]; rfl
  clear he hh
  go_enter Tryz.func89, Tryz.ntmps89
  go_wp2_with fail
  with_reducible refine (char_go g A cap bs i s B _ Hr.out HA.out hB hi).mono ?_
  rintro e w1 hp
  unfold CharPost at hp
  rw [He.out] at hp
  obtain ⟨hg1, rfl, hr1⟩ := hp
  obtain ⟨d0, d1, d2, d3, d4, e1, e3, e4⟩ := hr1.cells
  have Hr1 := Lib.hid hr1
  have Hg1 := Lib.hid hg1
  have HA1 := Lib.hid (HA.out.only hg1 hB Hr.out.lt)
  have Hz1 : Hid (Blk w1 w.heap.size 27 #[.int .u64 0, .int .u64 0, .int .u64 0, .int .u64 0]) := Hz.out.grown hg1 (by simpa using hne)
  have hlt1 := hr1.lt
  have hsz : w.heap.size < w1.heap.size := by have := hg1.size; simp at this; omega
  clear hr1 hg1
  go_wp2_with (first
    | (go_at_call 88; refine (take_no g A cap bs _ _ _ _ 45 B _ Hr1.out HA1.out (by omega) (by omega) Hh.out).mono ?_; rintro e w2 ⟨rfl, hr2, hg2⟩; have hlt2 := hr2.lt; have Hr2 := Lib.hid hr2; have Hg2 := Lib.hid hg2; clear hr2 hg2; have hsz2 : w.heap.size < w2.heap.size := Nat.lt_of_lt_of_le hsz Hg2.out.size; have Hz2 := Lib.hid (Hz1.out.grown Hg2.out (by simpa using hne)))
    | (go_at_call 101; refine (span_any _ _ _ (by omega) (by omega)).mono ?_; rintro e w3 ⟨rfl, hb3⟩; obtain ⟨z0, z1, z2, z3, y0, y1, y2, y3⟩ := (Hz2.out.below hb3 hsz2).c4))
  go_light
  refine bodyPost_ret (ret_set Tryz.results89 rfl (Hz2.out.below hb3 hsz2).set4) rfl ?_
  exact ItemPost.yes (only_set4 (only_below (only_trans (only_trans Hg0.out Hg1.out) Hg2.out) hb3) (Nat.le_refl _) _ _ _ _) Hi.out rfl ((Hr2.out.below hb3 hlt2).set4 (by omega) _ _ _ _)

set_option maxHeartbeats 2000000 in
theorem item_bad2 (g : Nat) (A : Option Addr) (cap : Nat) (bs : List Nat) (i s : Nat) (B : Nat) (w : World) (hr : Rd w g A cap bs (i : Int) (s : Int) 0 0) (hA : BytesAt w B A bs) (hB : B ≤ g) (hi : i ≤ bs.length) (lo j : Nat) (he : charS bs s i = .ok (lo, j)) (hlo : lo < 256) (hh : hasAt bs (j : Int) 45 = true) (hj : j < bs.length) (k p : Int) (hf : charS bs s (j + 1) = .error (k, p)) : Calls Tryz.prog 89 #[.pointer (some ⟨g, 0, none⟩)] w (ItemPost g A cap bs i s w) := by
  have hlt := hr.lt
  have hne : w.heap.size ≠ g := by omega
  obtain ⟨c0, c1, c2, c3, c4, f1, f3, f4⟩ := hr.cells
  have Hr := Lib.hid (hr.alloc (.cells #[.int .u64 0, .int .u64 0, .int .u64 0, .int .u64 0] 27))
  have HA : Hid (BytesAt (w.alloc (.cells #[.int .u64 0, .int .u64 0, .int .u64 0, .int .u64 0] 27)) B A bs) := hA.below ((Below.refl B w).alloc (by omega) _)
  have Hz : Hid (Blk (w.alloc (.cells #[.int .u64 0, .int .u64 0, .int .u64 0, .int .u64 0] 27)) w.heap.size 27 #[.int .u64 0, .int .u64 0, .int .u64 0, .int .u64 0]) := Blk.new _ _ _
  have Hg0 : Hid (w.grownBy (w.alloc (.cells #[.int .u64 0, .int .u64 0, .int .u64 0, .int .u64 0] 27)) (some g)) := only_alloc (only_refl _ _) _
  have Hl := Lib.hid hA.2.1
  have hl := hA.2.1
  clear hr hA
  have He := Lib.hid he
  have Hh := Lib.hid hh
  have Hf := Lib.hid hf
  have Hi : Hid (itemS bs s i = .error (k, p)) := by show itemS bs s i = _; unfold itemS; rw [he]; dsimp only; rw [hh, hf]; rfl
  clear he hh hf
  go_enter Tryz.func89, Tryz.ntmps89
  go_wp2_with fail
  with_reducible refine (char_go g A cap bs i s B _ Hr.out HA.out hB hi).mono ?_
  rintro e w1 hp
  unfold CharPost at hp
  rw [He.out] at hp
  obtain ⟨hg1, rfl, hr1⟩ := hp
  obtain ⟨d0, d1, d2, d3, d4, e1, e3, e4⟩ := hr1.cells
  have Hr1 := Lib.hid hr1
  have Hg1 := Lib.hid hg1
  have HA1 := Lib.hid (HA.out.only hg1 hB Hr.out.lt)
  have Hz1 : Hid (Blk w1 w.heap.size 27 #[.int .u64 0, .int .u64 0, .int .u64 0, .int .u64 0]) := Hz.out.grown hg1 (by simpa using hne)
  have hlt1 := hr1.lt
  have hsz : w.heap.size < w1.heap.size := by have := hg1.size; simp at this; omega
  clear hr1 hg1
  go_wp2_with fail
  refine (take_yes g A cap bs _ _ _ _ 45 B _ Hr1.out HA1.out (by omega) (by omega) Hh.out).mono ?_
  rintro e w2 ⟨rfl, hr2, hg2⟩
  have Hg2 := Lib.hid hg2
  have HA2 := Lib.hid (HA1.out.only hg2 hB hlt1)
  have hlt2 := hr2.lt
  have Hr2 : Hid (Rd w2 g A cap bs ((j + 1 : Nat) : Int) (s : Int) 0 0) := by show Rd _ _ _ _ _ _ _ _ _; rw [show ((j + 1 : Nat) : Int) = (j : Int) + 1 by omega]; exact hr2
  have Hz2 := Lib.hid (Hz1.out.grown hg2 (by simpa using hne))
  clear hr2 hg2
  go_wp2_with fail
  with_reducible refine (char_go g A cap bs (j + 1) s B _ Hr2.out HA2.out hB (by omega)).mono ?_
  rintro e w3 hp
  unfold CharPost at hp
  rw [Hf.out] at hp
  obtain ⟨hg3, hk, c, j', hc, rfl, hr3⟩ := hp
  have hkn : k ≠ 0 := hk
  have Hg3 := Lib.hid hg3
  have Hr3 := Lib.hid hr3
  have hlt3 := hr3.lt
  have Hz3 := Lib.hid (Hz2.out.grown hg3 (by simpa using hne))
  have hsz3 := Hz3.out.lt
  clear hr3 hg3
  by_cases hcl : c < lo
  · go_wp2_with (first
      | (go_at_call 97; refine (fail1_go g A cap bs _ _ _ _ _ _ _ Hr3.out hkn).mono ?_; rintro e w4 ⟨rfl, hr4, hg4⟩; have Hr4 := Lib.hid hr4; have Hg4 := Lib.hid hg4; have hlt4 := hr4.lt; have Hz4 := Lib.hid (Hz3.out.grown hg4 (by simpa using hne)); have hsz4 := Hz4.out.lt; clear hr4 hg4)
      | (go_at_call 101; refine (span_any _ _ _ (by omega) (by omega)).mono ?_; rintro e w5 ⟨rfl, hb5⟩; obtain ⟨z0, z1, z2, z3, y0, y1, y2, y3⟩ := (Hz4.out.below hb5 hsz4).c4))
    go_light
    refine bodyPost_ret (ret_set Tryz.results89 rfl (Hz4.out.below hb5 hsz4).set4) rfl ?_
    exact ItemPost.no _ j' (only_set4 (only_below (only_trans (only_trans (only_trans (only_trans Hg0.out Hg1.out) Hg2.out) Hg3.out) Hg4.out) hb5) (Nat.le_refl _) _ _ _ _) Hi.out hkn rfl ((Hr4.out.below hb5 hlt4).set4 (by omega) _ _ _ _)
  · go_wp2_with (go_at_call 101; refine (span_any _ _ _ (by omega) (by omega)).mono ?_; rintro e w5 ⟨rfl, hb5⟩; obtain ⟨z0, z1, z2, z3, y0, y1, y2, y3⟩ := (Hz3.out.below hb5 hsz3).c4)
    go_light
    refine bodyPost_ret (ret_set Tryz.results89 rfl (Hz3.out.below hb5 hsz3).set4) rfl ?_
    exact ItemPost.no _ j' (only_set4 (only_below (only_trans (only_trans (only_trans Hg0.out Hg1.out) Hg2.out) Hg3.out) hb5) (Nat.le_refl _) _ _ _ _) Hi.out hkn rfl ((Hr3.out.below hb5 hlt3).set4 (by omega) _ _ _ _)

set_option maxHeartbeats 2000000 in
theorem item_two (g : Nat) (A : Option Addr) (cap : Nat) (bs : List Nat) (i s : Nat) (B : Nat) (w : World) (hr : Rd w g A cap bs (i : Int) (s : Int) 0 0) (hA : BytesAt w B A bs) (hB : B ≤ g) (hi : i ≤ bs.length) (lo j : Nat) (he : charS bs s i = .ok (lo, j)) (hlo : lo < 256) (hh : hasAt bs (j : Int) 45 = true) (hj : j < bs.length) (hi' j' : Nat) (hf : charS bs s (j + 1) = .ok (hi', j')) (hhi : hi' < 256) : Calls Tryz.prog 89 #[.pointer (some ⟨g, 0, none⟩)] w (ItemPost g A cap bs i s w) := by
  have hlt := hr.lt
  have hne : w.heap.size ≠ g := by omega
  obtain ⟨c0, c1, c2, c3, c4, f1, f3, f4⟩ := hr.cells
  have Hr := Lib.hid (hr.alloc (.cells #[.int .u64 0, .int .u64 0, .int .u64 0, .int .u64 0] 27))
  have HA : Hid (BytesAt (w.alloc (.cells #[.int .u64 0, .int .u64 0, .int .u64 0, .int .u64 0] 27)) B A bs) := hA.below ((Below.refl B w).alloc (by omega) _)
  have Hz : Hid (Blk (w.alloc (.cells #[.int .u64 0, .int .u64 0, .int .u64 0, .int .u64 0] 27)) w.heap.size 27 #[.int .u64 0, .int .u64 0, .int .u64 0, .int .u64 0]) := Blk.new _ _ _
  have Hg0 : Hid (w.grownBy (w.alloc (.cells #[.int .u64 0, .int .u64 0, .int .u64 0, .int .u64 0] 27)) (some g)) := only_alloc (only_refl _ _) _
  have Hl := Lib.hid hA.2.1
  have hl := hA.2.1
  clear hr hA
  have He := Lib.hid he
  have Hh := Lib.hid hh
  have Hf := Lib.hid hf
  have Hi : Hid (itemS bs s i = if hi' < lo then .error (15, (i : Int)) else .ok (lo, hi', j')) := by show itemS bs s i = _; unfold itemS; rw [he]; dsimp only; rw [hh, hf]; rfl
  clear he hh hf
  go_enter Tryz.func89, Tryz.ntmps89
  go_wp2_with fail
  with_reducible refine (char_go g A cap bs i s B _ Hr.out HA.out hB hi).mono ?_
  rintro e w1 hp
  unfold CharPost at hp
  rw [He.out] at hp
  obtain ⟨hg1, rfl, hr1⟩ := hp
  obtain ⟨d0, d1, d2, d3, d4, e1, e3, e4⟩ := hr1.cells
  have Hr1 := Lib.hid hr1
  have Hg1 := Lib.hid hg1
  have HA1 := Lib.hid (HA.out.only hg1 hB Hr.out.lt)
  have Hz1 : Hid (Blk w1 w.heap.size 27 #[.int .u64 0, .int .u64 0, .int .u64 0, .int .u64 0]) := Hz.out.grown hg1 (by simpa using hne)
  have hlt1 := hr1.lt
  have hsz : w.heap.size < w1.heap.size := by have := hg1.size; simp at this; omega
  clear hr1 hg1
  go_wp2_with fail
  refine (take_yes g A cap bs _ _ _ _ 45 B _ Hr1.out HA1.out (by omega) (by omega) Hh.out).mono ?_
  rintro e w2 ⟨rfl, hr2, hg2⟩
  have Hg2 := Lib.hid hg2
  have HA2 := Lib.hid (HA1.out.only hg2 hB hlt1)
  have hlt2 := hr2.lt
  have Hr2 : Hid (Rd w2 g A cap bs ((j + 1 : Nat) : Int) (s : Int) 0 0) := by show Rd _ _ _ _ _ _ _ _ _; rw [show ((j + 1 : Nat) : Int) = (j : Int) + 1 by omega]; exact hr2
  have Hz2 := Lib.hid (Hz1.out.grown hg2 (by simpa using hne))
  clear hr2 hg2
  go_wp2_with fail
  with_reducible refine (char_go g A cap bs (j + 1) s B _ Hr2.out HA2.out hB (by omega)).mono ?_
  rintro e w3 hp
  unfold CharPost at hp
  rw [Hf.out] at hp
  obtain ⟨hg3, rfl, hr3⟩ := hp
  have Hg3 := Lib.hid hg3
  have Hr3 := Lib.hid hr3
  have hlt3 := hr3.lt
  have Hz3 := Lib.hid (Hz2.out.grown hg3 (by simpa using hne))
  have hsz3 := Hz3.out.lt
  clear hr3 hg3
  by_cases hcl : hi' < lo
  · go_wp2_with (first
      | (go_at_call 97; refine (fail0_go g A cap bs _ _ _ _ _ _ Hr3.out).mono ?_; rintro e w4 ⟨rfl, hr4, hg4⟩; have Hr4 := Lib.hid hr4; have Hg4 := Lib.hid hg4; have hlt4 := hr4.lt; have Hz4 := Lib.hid (Hz3.out.grown hg4 (by simpa using hne)); have hsz4 := Hz4.out.lt; clear hr4 hg4)
      | (go_at_call 101; refine (span_any _ _ _ (by omega) (by omega)).mono ?_; rintro e w5 ⟨rfl, hb5⟩; obtain ⟨z0, z1, z2, z3, y0, y1, y2, y3⟩ := (Hz4.out.below hb5 hsz4).c4))
    go_light
    refine bodyPost_ret (ret_set Tryz.results89 rfl (Hz4.out.below hb5 hsz4).set4) rfl ?_
    exact ItemPost.no _ j' (only_set4 (only_below (only_trans (only_trans (only_trans (only_trans Hg0.out Hg1.out) Hg2.out) Hg3.out) Hg4.out) hb5) (Nat.le_refl _) _ _ _ _) (by rw [Hi.out, if_pos hcl]) (by decide) rfl ((Hr4.out.below hb5 hlt4).set4 (by omega) _ _ _ _)
  · go_wp2_with (go_at_call 101; refine (span_any _ _ _ (by omega) (by omega)).mono ?_; rintro e w5 ⟨rfl, hb5⟩; obtain ⟨z0, z1, z2, z3, y0, y1, y2, y3⟩ := (Hz3.out.below hb5 hsz3).c4)
    go_light
    refine bodyPost_ret (ret_set Tryz.results89 rfl (Hz3.out.below hb5 hsz3).set4) rfl ?_
    exact ItemPost.yes (only_set4 (only_below (only_trans (only_trans (only_trans Hg0.out Hg1.out) Hg2.out) Hg3.out) hb5) (Nat.le_refl _) _ _ _ _) (by rw [Hi.out, if_neg hcl]) rfl ((Hr3.out.below hb5 hlt3).set4 (by omega) _ _ _ _)

theorem item_go (g : Nat) (A : Option Addr) (cap : Nat) (bs : List Nat) (i s : Nat) (B : Nat) (w : World) (hr : Rd w g A cap bs (i : Int) (s : Int) 0 0) (hA : BytesAt w B A bs) (hB : B ≤ g) (hi : i ≤ bs.length) : Calls Tryz.prog 89 #[.pointer (some ⟨g, 0, none⟩)] w (ItemPost g A cap bs i s w) := by
  cases he : charS bs s i with
  | error x => obtain ⟨k, p⟩ := x; exact item_bad1 g A cap bs i s B w hr hA hB hi k p he
  | ok x =>
    obtain ⟨lo, j⟩ := x
    obtain ⟨a1, a2, a3⟩ := charS_ok hA.1 he
    cases hh : hasAt bs (j : Int) 45 with
    | false => exact item_one g A cap bs i s B w hr hA hB hi lo j he a3 hh
    | true =>
      obtain ⟨j', e', hj, _⟩ := hasAt_yes hh
      obtain rfl : j = j' := by omega
      cases hf : charS bs s (j + 1) with
      | error y => obtain ⟨k, p⟩ := y; exact item_bad2 g A cap bs i s B w hr hA hB hi lo j he a3 hh hj k p hf
      | ok y =>
        obtain ⟨hi', j'⟩ := y
        exact item_two g A cap bs i s B w hr hA hB hi lo j he a3 hh hj hi' j' hf (charS_ok hA.1 hf).2.2

end Go.Proofs.YtchfipjclbpomaaGreat
namespace Go.Proofs.YtchfipjclbpomaaGreat
set_option linter.unusedSimpArgs false
set_option linter.unusedVariables false

theorem testBit_split (a b j : Nat) (ha : a < 256) : (a + 256 * b).testBit j = if j < 8 then a.testBit j else b.testBit (j - 8) := by
  rw [Nat.add_comm, show (256 : Nat) = 2 ^ 8 from rfl]
  exact Nat.testBit_two_pow_mul_add b ha j

theorem land_split (x m n : Nat) (hm : m < 256) : x &&& (m + 256 * n) = ((x % 256) &&& m) + 256 * ((x / 256) &&& n) := by
  apply Nat.eq_of_testBit_eq
  intro j
  have h1 : (x % 256) &&& m < 256 := Nat.and_lt_two_pow (n := 8) _ hm
  rw [testBit_split _ _ _ h1, Nat.testBit_and, testBit_split _ _ _ hm]
  by_cases hj : j < 8
  · rw [if_pos hj, if_pos hj, Nat.testBit_and, show (256 : Nat) = 2 ^ 8 from rfl, Nat.testBit_mod_two_pow]
    simp [hj]
  · rw [if_neg hj, if_neg hj, Nat.testBit_and, show (256 : Nat) = 2 ^ 8 from rfl, Nat.testBit_div_two_pow]
    congr 2
    omega

def mask (m : Nat) : Nat → Nat
  | 0 => 0
  | n + 1 => m + 256 * mask m n

def s1 (n x : Nat) : Nat := ((x / 2) &&& mask 0x55 n) + (x &&& mask 0x55 n)
def s2 (n x : Nat) : Nat := ((x / 4) &&& mask 0x33 n) + (x &&& mask 0x33 n)
def s3 (n x : Nat) : Nat := (x / 16 + x) &&& mask 0x0f n
def f1 (b : Nat) : Nat := ((b / 2) &&& 0x55) + (b &&& 0x55)
def f2 (b : Nat) : Nat := ((b / 4) &&& 0x33) + (b &&& 0x33)
def f3 (b : Nat) : Nat := (b / 16 + b) &&& 0x0f

theorem cross1 : ∀ y : Fin 512, (y.val / 2) &&& 0x55 = (y.val % 256 / 2) &&& 0x55 := by decide +kernel
theorem cross2 : ∀ y : Fin 1024, (y.val / 4) &&& 0x33 = (y.val % 256 / 4) &&& 0x33 := by decide +kernel

theorem s1_step (n x : Nat) : s1 (n + 1) x = f1 (x % 256) + 256 * s1 n (x / 256) := by
  unfold s1 f1
  rw [show mask 0x55 (n + 1) = 0x55 + 256 * mask 0x55 n from rfl, land_split _ _ _ (by decide), land_split _ _ _ (by decide)]
  have h := cross1 ⟨x % 512, Nat.mod_lt _ (by decide)⟩
  dsimp only at h
  rw [show x / 2 % 256 = x % 512 / 2 by omega, h, show x % 512 % 256 = x % 256 by omega, show x / 2 / 256 = x / 256 / 2 by omega]
  omega
theorem s2_step (n x : Nat) : s2 (n + 1) x = f2 (x % 256) + 256 * s2 n (x / 256) := by
  unfold s2 f2
  rw [show mask 0x33 (n + 1) = 0x33 + 256 * mask 0x33 n from rfl, land_split _ _ _ (by decide), land_split _ _ _ (by decide)]
  have h := cross2 ⟨x % 1024, Nat.mod_lt _ (by decide)⟩
  dsimp only at h
  rw [show x / 4 % 256 = x % 1024 / 4 by omega, h, show x % 1024 % 256 = x % 256 by omega, show x / 4 / 256 = x / 256 / 4 by omega]
  omega
theorem cross3 : ∀ y : Fin 69, ∀ t : Fin 5, (y.val / 16 + y.val + 16 * t.val) &&& 0x0f = (y.val / 16 + y.val) &&& 0x0f := by decide +kernel
theorem s3_step (n x : Nat) (h1 : x % 256 < 69) (h2 : x / 256 % 16 < 5) : s3 (n + 1) x = f3 (x % 256) + 256 * s3 n (x / 256) := by
  unfold s3 f3
  rw [show mask 0x0f (n + 1) = 0x0f + 256 * mask 0x0f n from rfl, land_split _ _ _ (by decide)]
  have h := cross3 ⟨x % 256, h1⟩ ⟨x / 256 % 16, h2⟩
  dsimp only at h
  rw [show (x / 16 + x) % 256 = x % 256 / 16 + x % 256 + 16 * (x / 256 % 16) by omega, h, show (x / 16 + x) / 256 = x / 256 / 16 + x / 256 by omega]

theorem f1_lt : ∀ b : Fin 256, f1 b.val < 256 := by decide +kernel
theorem f2f1_lt : ∀ b : Fin 256, f2 (f1 b.val) < 69 ∧ f2 (f1 b.val) % 16 < 5 := by decide +kernel
/-- How many bits of a byte are set. -/
def pop (b : Nat) : Nat := f3 (f2 (f1 b))
theorem pop_le : ∀ b : Fin 256, pop b.val ≤ 8 := by decide +kernel

/-- The three steps together: the bytes' counts side by side. -/
def cnts : Nat → Nat → Nat
  | 0, _ => 0
  | n + 1, x => pop (x % 256) + 256 * cnts n (x / 256)

theorem s123 : ∀ (n x : Nat), s3 n (s2 n (s1 n x)) = cnts n x ∧ (0 < n → s2 n (s1 n x) % 16 < 5)
  | 0, x => by simp [s3, s2, s1, mask, cnts]
  | n + 1, x => by
    obtain ⟨ih, ihn⟩ := s123 n (x / 256)
    have hb : x % 256 < 256 := Nat.mod_lt _ (by decide)
    have a1 := f1_lt ⟨x % 256, hb⟩
    have a2 := f2f1_lt ⟨x % 256, hb⟩
    dsimp only at a1 a2
    have e2 : s2 (n + 1) (s1 (n + 1) x) = f2 (f1 (x % 256)) + 256 * s2 n (s1 n (x / 256)) := by
      rw [s2_step, s1_step, show (f1 (x % 256) + 256 * s1 n (x / 256)) % 256 = f1 (x % 256) by omega, show (f1 (x % 256) + 256 * s1 n (x / 256)) / 256 = s1 n (x / 256) by omega]
    refine ⟨?_, fun _ => by rw [e2]; omega⟩
    have hz : s2 n (s1 n (x / 256)) % 16 < 5 := by
      rcases Nat.eq_zero_or_pos n with h0 | h0
      · subst h0; simp [s2, s1, mask]
      · exact ihn h0
    rw [e2, s3_step _ _ (by omega) (by rw [show (f2 (f1 (x % 256)) + 256 * s2 n (s1 n (x / 256))) / 256 = s2 n (s1 n (x / 256)) by omega]; exact hz),
      show (f2 (f1 (x % 256)) + 256 * s2 n (s1 n (x / 256))) % 256 = f2 (f1 (x % 256)) by omega, show (f2 (f1 (x % 256)) + 256 * s2 n (s1 n (x / 256))) / 256 = s2 n (s1 n (x / 256)) by omega, ih]
    rfl

/-- How many of the first n say yes. -/
def cnt (p : Nat → Bool) : Nat → Nat
  | 0 => 0
  | n + 1 => cnt p n + (p n).toNat
theorem cnt_le (p : Nat → Bool) : ∀ n, cnt p n ≤ n
  | 0 => Nat.le_refl _
  | n + 1 => by have := cnt_le p n; have : (p n).toNat ≤ 1 := by cases p n <;> decide
                unfold cnt; omega
theorem cnt_congr {p q : Nat → Bool} : ∀ n, (∀ k, k < n → p k = q k) → cnt p n = cnt q n
  | 0, _ => rfl
  | n + 1, h => by unfold cnt; rw [cnt_congr n (fun k hk => h k (by omega)), h n (by omega)]
theorem cnt_add (p : Nat → Bool) (m : Nat) : ∀ n, cnt p (m + n) = cnt p m + cnt (fun k => p (m + k)) n
  | 0 => by simp [cnt]
  | n + 1 => by rw [← Nat.add_assoc]; show cnt p (m + n) + (p (m + n)).toNat = cnt p m + (cnt (fun k => p (m + k)) n + (p (m + n)).toNat); rw [cnt_add p m n]; omega
theorem pop_cnt : ∀ b : Fin 256, pop b.val = cnt b.val.testBit 8 := by decide +kernel

/-- The sum of the counts of n bytes. -/
def sums : Nat → Nat → Nat
  | 0, _ => 0
  | n + 1, x => pop (x % 256) + sums n (x / 256)
theorem sums_cnt : ∀ (n x : Nat), sums n x = cnt x.testBit (8 * n)
  | 0, x => rfl
  | n + 1, x => by
    unfold sums
    rw [sums_cnt n, pop_cnt ⟨x % 256, Nat.mod_lt _ (by decide)⟩, show 8 * (n + 1) = 8 + 8 * n by omega, cnt_add]
    dsimp only
    congr 1
    · apply cnt_congr
      intro k hk
      rw [show (256 : Nat) = 2 ^ 8 from rfl, Nat.testBit_mod_two_pow]
      simp [hk]
    · apply cnt_congr
      intro k _
      rw [show (256 : Nat) = 2 ^ 8 from rfl, Nat.testBit_div_two_pow, Nat.add_comm]

/-- The last three steps: the bytes' counts summed up in the lowest byte. -/
def fold3 (z : Nat) : Nat := let u := z + z / 256; let v := u + u / 65536; (v + v / 4294967296) % 128
theorem d1 {a b : Nat} (h : a < 256) : (a + 256 * b) / 256 = b := by omega
theorem m1 (a b : Nat) : (a + 256 * b) % 128 = a % 128 := by omega
theorem a1 (a b c d : Nat) : (a + 256 * b) + (c + 256 * d) = (a + c) + 256 * (b + d) := by omega
theorem a0 (a b c : Nat) : (a + 256 * b) + c = (a + c) + 256 * b := by omega
theorem fold3_eq (c0 c1 c2 c3 c4 c5 c6 c7 : Nat) (h0 : c0 ≤ 8) (h1 : c1 ≤ 8) (h2 : c2 ≤ 8) (h3 : c3 ≤ 8) (h4 : c4 ≤ 8) (h5 : c5 ≤ 8) (h6 : c6 ≤ 8) (h7 : c7 ≤ 8) :
    fold3 (c0 + 256 * (c1 + 256 * (c2 + 256 * (c3 + 256 * (c4 + 256 * (c5 + 256 * (c6 + 256 * c7))))))) = c0 + c1 + (c2 + c3) + (c4 + c5 + (c6 + c7)) := by
  unfold fold3
  dsimp only
  rw [d1 (show c0 < 256 by omega)]
  have e2 : c0 + 256 * (c1 + 256 * (c2 + 256 * (c3 + 256 * (c4 + 256 * (c5 + 256 * (c6 + 256 * c7)))))) + (c1 + 256 * (c2 + 256 * (c3 + 256 * (c4 + 256 * (c5 + 256 * (c6 + 256 * c7)))))) =
      (c0 + c1) + 256 * ((c1 + c2) + 256 * ((c2 + c3) + 256 * ((c3 + c4) + 256 * ((c4 + c5) + 256 * ((c5 + c6) + 256 * ((c6 + c7) + 256 * c7)))))) := by
    simp only [Nat.mul_add]; clear h0 h1 h2 h3 h4 h5 h6 h7; omega
  rw [e2, show (65536 : Nat) = 256 * 256 from rfl, ← Nat.div_div_eq_div_mul, d1 (show c0 + c1 < 256 by omega), d1 (show c1 + c2 < 256 by omega)]
  have e3 : (c0 + c1) + 256 * ((c1 + c2) + 256 * ((c2 + c3) + 256 * ((c3 + c4) + 256 * ((c4 + c5) + 256 * ((c5 + c6) + 256 * ((c6 + c7) + 256 * c7)))))) + ((c2 + c3) + 256 * ((c3 + c4) + 256 * ((c4 + c5) + 256 * ((c5 + c6) + 256 * ((c6 + c7) + 256 * c7))))) =
      (c0 + c1 + (c2 + c3)) + 256 * ((c1 + c2 + (c3 + c4)) + 256 * ((c2 + c3 + (c4 + c5)) + 256 * ((c3 + c4 + (c5 + c6)) + 256 * ((c4 + c5 + (c6 + c7)) + 256 * ((c5 + c6 + c7) + 256 * ((c6 + c7) + 256 * c7)))))) := by
    simp only [Nat.mul_add]; clear h0 h1 h2 h3 h4 h5 h6 h7; omega
  rw [e3, show (4294967296 : Nat) = 256 * 256 * 256 * 256 from rfl, ← Nat.div_div_eq_div_mul, ← Nat.div_div_eq_div_mul, ← Nat.div_div_eq_div_mul,
    d1 (show c0 + c1 + (c2 + c3) < 256 by omega), d1 (show c1 + c2 + (c3 + c4) < 256 by omega), d1 (show c2 + c3 + (c4 + c5) < 256 by omega), d1 (show c3 + c4 + (c5 + c6) < 256 by omega)]
  rw [a1, m1]
  omega
theorem fold3_cnts (x : Nat) : fold3 (cnts 8 x) = sums 8 x := by
  have h : ∀ y, pop (y % 256) ≤ 8 := fun y => pop_le ⟨y % 256, Nat.mod_lt _ (by decide)⟩
  have e := fold3_eq _ _ _ _ _ _ _ _ (h x) (h (x / 256)) (h (x / 256 / 256)) (h (x / 256 / 256 / 256)) (h (x / 256 / 256 / 256 / 256)) (h (x / 256 / 256 / 256 / 256 / 256)) (h (x / 256 / 256 / 256 / 256 / 256 / 256)) (h (x / 256 / 256 / 256 / 256 / 256 / 256 / 256))
  simp only [cnts, sums, Nat.mul_zero, Nat.add_zero]
  rw [e]
  simp only [Nat.add_assoc]

end Go.Proofs.YtchfipjclbpomaaGreat
namespace Go.Proofs.YtchfipjclbpomaaGreat
open Go.RowKit
set_option linter.unusedSimpArgs false
set_option linter.unusedVariables false
set_option maxRecDepth 100000

theorem and64 (a M : Nat) (ha : a < 18446744073709551616) (hM : M < 18446744073709551616) : bits .and .u64 (a : Int) (M : Int) = ((a &&& M : Nat) : Int) := u64_and_nat a M ha hM
theorem wrapN (a : Nat) (h : a < 18446744073709551616) : IntKind.u64.wrap (a : Int) = (a : Int) := by rw [IntKind.wrap_u64]; omega
theorem i64_and127 (a : Nat) (ha : a < 9223372036854775808) : bits .and .i64 (a : Int) 127 = ((a % 128 : Nat) : Int) := by
  have hx : a &&& 127 = a % 128 := Nat.and_two_pow_sub_one_eq_mod a 7
  show IntKind.i64.wrap ((BitVec.ofInt 64 (a : Int) &&& BitVec.ofInt 64 (127 : Int)).toNat : Int) = _
  have e1 : (BitVec.ofInt 64 (a : Int)).toNat = a := by rw [BitVec.ofInt_natCast, BitVec.toNat_ofNat]; exact Nat.mod_eq_of_lt (by omega)
  have e2 : (BitVec.ofInt 64 (127 : Int)).toNat = 127 := by decide
  rw [BitVec.toNat_and, e1, e2, hx, IntKind.wrap_i64]
  omega
theorem mask55 : mask 0x55 8 = 6148914691236517205 := by decide
theorem mask33 : mask 0x33 8 = 3689348814741910323 := by decide
theorem mask0f : mask 0x0f 8 = 1085102592571150095 := by decide
theorem st1 (x : Nat) (hx : x < 18446744073709551616) : IntKind.u64.wrap (bits .and .u64 ((x : Int) / 2) 6148914691236517205 + bits .and .u64 (x : Int) 6148914691236517205) = ((s1 8 x : Nat) : Int) ∧ s1 8 x < 18446744073709551616 := by
  have e : ((x : Int) / 2) = ((x / 2 : Nat) : Int) := by omega
  have h1 : (x / 2) &&& 6148914691236517205 ≤ 6148914691236517205 := Nat.and_le_right
  have h2 : x &&& 6148914691236517205 ≤ 6148914691236517205 := Nat.and_le_right
  have b1 := and64 (x / 2) 6148914691236517205 (by omega) (by decide)
  have b2 := and64 x 6148914691236517205 hx (by decide)
  rw [show (((6148914691236517205 : Nat)) : Int) = 6148914691236517205 from rfl] at b1 b2
  unfold s1
  rw [mask55, e, b1, b2, ← Int.natCast_add]
  exact ⟨wrapN _ (by omega), by omega⟩
theorem st2 (x : Nat) (hx : x < 18446744073709551616) : IntKind.u64.wrap (bits .and .u64 ((x : Int) / 4) 3689348814741910323 + bits .and .u64 (x : Int) 3689348814741910323) = ((s2 8 x : Nat) : Int) ∧ s2 8 x ≤ 7378697629483820646 := by
  have e : ((x : Int) / 4) = ((x / 4 : Nat) : Int) := by omega
  have h1 : (x / 4) &&& 3689348814741910323 ≤ 3689348814741910323 := Nat.and_le_right
  have h2 : x &&& 3689348814741910323 ≤ 3689348814741910323 := Nat.and_le_right
  have b1 := and64 (x / 4) 3689348814741910323 (by omega) (by decide)
  have b2 := and64 x 3689348814741910323 hx (by decide)
  rw [show (((3689348814741910323 : Nat)) : Int) = 3689348814741910323 from rfl] at b1 b2
  unfold s2
  rw [mask33, e, b1, b2, ← Int.natCast_add]
  exact ⟨wrapN _ (by omega), by omega⟩
theorem st3 (x : Nat) (hx : x ≤ 7378697629483820646) : bits .and .u64 (IntKind.u64.wrap ((x : Int) / 16 + (x : Int))) 1085102592571150095 = ((s3 8 x : Nat) : Int) ∧ s3 8 x ≤ 1085102592571150095 := by
  have e : ((x : Int) / 16 + (x : Int)) = ((x / 16 + x : Nat) : Int) := by omega
  have b1 := and64 (x / 16 + x) 1085102592571150095 (by omega) (by decide)
  rw [show (((1085102592571150095 : Nat)) : Int) = 1085102592571150095 from rfl] at b1
  unfold s3
  rw [mask0f, e, wrapN _ (by omega), b1]
  exact ⟨rfl, Nat.and_le_right⟩

set_option maxHeartbeats 1000000 in
theorem ones_go (x : Nat) (w : World) (hx : x < 18446744073709551616) :
    Calls Tryz.prog 46 #[.int .u64 (x : Int)] w fun e w' => e = .returned (.int .i64 ((cnt x.testBit 64 : Nat) : Int)) ∧ w = w' := by
  go_enter Tryz.func46, Tryz.ntmps46
  go_wp2
  go_light
  go_ret
  refine ⟨ret_i ?_, rfl⟩
  obtain ⟨e1, l1⟩ := st1 x hx
  obtain ⟨e2, l2⟩ := st2 (s1 8 x) l1
  obtain ⟨e3, l3⟩ := st3 (s2 8 (s1 8 x)) l2
  have ef : fold3 (s3 8 (s2 8 (s1 8 x))) = cnt x.testBit 64 := by rw [(s123 8 x).1, fold3_cnts, sums_cnt]
  rw [e1, e2, e3]
  generalize s3 8 (s2 8 (s1 8 x)) = z at *
  rw [← ef]
  unfold fold3
  dsimp only
  clear e1 e2 e3 l1 l2 ef
  have q1 : ((z : Int) + (z : Int) / 256) = ((z + z / 256 : Nat) : Int) := by omega
  rw [q1, wrapN _ (by omega)]
  generalize hu : z + z / 256 = u
  have lu : u ≤ 2170205185142300190 := by omega
  have q2 : ((u : Int) + (u : Int) / 65536) = ((u + u / 65536 : Nat) : Int) := by omega
  rw [q2, wrapN _ (by omega)]
  generalize hv : u + u / 65536 = v
  have lv : v ≤ 2180205185142300190 := by omega
  have q3 : ((v : Int) + (v : Int) / 4294967296) = ((v + v / 4294967296 : Nat) : Int) := by omega
  rw [q3, wrapN _ (by omega), show wrap64 ((v + v / 4294967296 : Nat) : Int) = ((v + v / 4294967296 : Nat) : Int) by unfold wrap64; omega]
  exact i64_and127 _ (by omega)

theorem cnt_word (p : Nat → Bool) (i : Nat) : cnt (word p i).testBit 64 = cnt (fun k => p (64 * i + k)) 64 :=
  cnt_congr 64 fun k hk => by rw [testBit_word]; simp [hk]
theorem cnt_words (p : Nat → Bool) : cnt (word p 0).testBit 64 + cnt (word p 1).testBit 64 + cnt (word p 2).testBit 64 + cnt (word p 3).testBit 64 = cnt p 256 := by
  rw [cnt_word, cnt_word, cnt_word, cnt_word, show 256 = 64 + (64 + (64 + 64)) from rfl, cnt_add, cnt_add, cnt_add]
  simp only [Nat.mul_zero, Nat.zero_add, ← Nat.add_assoc, Nat.mul_one, show 64 * 2 = 64 + 64 from rfl, show 64 * 3 = 64 + 64 + 64 from rfl]

set_option maxHeartbeats 1000000 in
theorem count_go (p : Nat → Bool) (w : World) :
    Calls Tryz.prog 28 #[.agg #[.int .u64 ((word (p) 0 : Nat) : Int), .int .u64 ((word (p) 1 : Nat) : Int), .int .u64 ((word (p) 2 : Nat) : Int), .int .u64 ((word (p) 3 : Nat) : Int)]] w fun e w' => e = .returned (.int .i64 ((cnt p 256 : Nat) : Int)) ∧ Below w.heap.size w w' := by
  go_enter Tryz.func28, Tryz.ntmps28
  go_wp2
  refine wp_loop_rounds 5 ?_
  rw [rounds_succ]
  go_wp2_with (go_at_call 46; refine (ones_go _ _ (word_lt _ _)).mono ?_; rintro e w2 ⟨rfl, rfl⟩)
  rw [rounds_succ]
  go_wp2_with (go_at_call 46; refine (ones_go _ _ (word_lt _ _)).mono ?_; rintro e w2 ⟨rfl, rfl⟩)
  rw [rounds_succ]
  go_wp2_with (go_at_call 46; refine (ones_go _ _ (word_lt _ _)).mono ?_; rintro e w2 ⟨rfl, rfl⟩)
  rw [rounds_succ]
  go_wp2_with (go_at_call 46; refine (ones_go _ _ (word_lt _ _)).mono ?_; rintro e w2 ⟨rfl, rfl⟩)
  rw [rounds_succ]
  go_wp2
  go_light
  go_ret
  refine ⟨ret_i ?_, (Below.refl _ _).alloc (Nat.le_refl _) _⟩
  have e := cnt_words p
  have l0 := cnt_le (word p 0).testBit 64
  have l1 := cnt_le (word p 1).testBit 64
  have l2 := cnt_le (word p 2).testBit 64
  have l3 := cnt_le (word p 3).testBit 64
  rw [← e]
  unfold wrap64
  omega

end Go.Proofs.YtchfipjclbpomaaGreat
namespace Go.Proofs.YtchfipjclbpomaaGreat
open Go.ChangeShapes Go.WideShapes Go.ChangeAt Go.RowKit
set_option linter.unusedSimpArgs false
set_option linter.unusedVariables false
set_option maxRecDepth 100000

theorem own_knob : ownKnob Tryz.prog.godebug = none := by kernel_rfl
theorem laid_out : laidOutB Tryz.prog = true := by kernel_rfl
theorem cellsByte : Tryz.prog.cellsOf 5 = 1 := by kernel_rfl
theorem bytesByte : Tryz.prog.bytesOf 5 = 1 := by kernel_rfl

theorem addr_add (b o j : Nat) : (⟨b, o, none⟩ : Addr).add j = ⟨b, o + j, none⟩ := by unfold Addr.add; split <;> simp_all

theorem u8_of_wf {n : Int} (h : (Lit.int .u8 n).wf = true) : 0 ≤ n ∧ n < 256 := by
  have hh : (decide (IntKind.min .u8 ≤ n) && decide (n ≤ IntKind.max .u8)) = true := h
  simp only [Bool.and_eq_true, decide_eq_true_eq] at hh
  obtain ⟨h1, h2⟩ := hh
  have e1 : IntKind.min .u8 = 0 := by decide
  have e2 : IntKind.max .u8 = 255 := by decide
  rw [e1] at h1
  rw [e2] at h2
  omega

/-- A slice of bytes that came in. -/
theorem bytes_came {H : Type} {enc : TypeId × Value → H} {W : World} {A : Option Addr} {len cap : Nat} {d : DataW H} {p : List MemPlace} {ts : List TypeId} {ds : List (DataW H)} {j : Nat}
    (h : DataW.Trod enc Tryz.prog W 0 (fun _ => true) true 48 (.slice A len cap) d p)
    (hsz : (DataW.weightsEach Tryz.prog ts ds).all (· ≤ reachBytes) = true) (ht : ts[j]? = some 48) (hd : ds[j]? = some d) :
    ∃ bs : List Nat, bs.length = len ∧ BytesAt W W.heap.size A bs ∧ len ≤ cap := by
  obtain ⟨fuel, hf⟩ := h
  rcases open_ints Tryz.underlying48 Tryz.underlying5 cellsByte hf with ⟨hcs, _⟩ | ⟨x, l, c, zs, hcs, _, hl, hm, hz, hx, hcell, hwz⟩
  · simp [Value.cells] at hcs
    obtain ⟨rfl, rfl, rfl⟩ := hcs
    exact ⟨[], rfl, ⟨by simp, by simp, by simp⟩, Nat.le_refl _⟩
  · simp [Value.cells] at hcs
    obtain ⟨rfl, rfl, rfl⟩ := hcs
    simp only [if_true] at hz
    have hdx : d = .slice (lits .u8 (zs.take len)) (lits .u8 (zs.drop len)) := (Prod.mk.inj hx).1
    subst hdx
    have hs := sized_slice hsz ht hd Tryz.underlying48
    rw [bytesByte] at hs
    simp [lits] at hs
    have hr : reachBytes = 140737488351232 := by decide
    rw [hr] at hs
    have hlen : len ≤ 140737488351232 := by omega
    refine ⟨(zs.take len).map Int.toNat, by simp; omega, ⟨?_, by simp; omega, ?_⟩, hl⟩
    · intro y hy
      obtain ⟨z, hz1, rfl⟩ := List.mem_map.1 hy
      have hw := hwz z (List.mem_of_mem_take hz1)
      have := u8_of_wf hw
      omega
    · intro hpos
      have hpos' : 0 < len := by simp at hpos; omega
      obtain ⟨b, off, spot⟩ := x
      have h0 := hcell 0 (by omega)
      have hspot : spot = none := by simpa [Addr.add] using World.cell?_spot h0
      subst hspot
      refine ⟨b, off, rfl, by have := World.block_lt_of_cell? W _ h0; simpa [Addr.add] using this, ?_⟩
      intro i hi
      have hi' : i < len := by simp at hi; omega
      have hci := hcell i (by omega)
      rw [addr_add] at hci
      rw [hci]
      have hzi : i < zs.length := by omega
      have hw := hwz zs[i] (List.getElem_mem hzi)
      have h0' : 0 ≤ zs[i] := (u8_of_wf hw).1
      congr 2
      unfold byteAt
      simp [List.getD_eq_getElem?_getD, hi', hzi]
      omega


end Go.Proofs.YtchfipjclbpomaaGreat
namespace Go.Proofs.YtchfipjclbpomaaGreat
open Go.ChangeShapes Go.WideShapes Go.ChangeAt Go.RowKit
set_option linter.unusedSimpArgs false
set_option linter.unusedVariables false
set_option maxRecDepth 100000

theorem u64_of_wf {n : Int} (h : (Lit.int .u64 n).wf = true) : 0 ≤ n ∧ n < 18446744073709551616 := by
  have hh : (decide (IntKind.min .u64 ≤ n) && decide (n ≤ IntKind.max .u64)) = true := h
  simp only [Bool.and_eq_true, decide_eq_true_eq] at hh
  obtain ⟨h1, h2⟩ := hh
  have e1 : IntKind.min .u64 = 0 := by decide
  have e2 : IntKind.max .u64 = 18446744073709551615 := by decide
  rw [e1] at h1
  rw [e2] at h2
  omega
theorem cellsWord : Tryz.prog.cellsOf 25 = 1 := by kernel_rfl
theorem cellsSet : Tryz.prog.cellsOf 27 = 4 := by kernel_rfl
theorem bytesLex : Tryz.prog.bytesOf 68 = 64 := by kernel_rfl
theorem cellsLex : Tryz.prog.cellsOf 68 = 8 := by kernel_rfl
theorem cellsKind : Tryz.prog.cellsOf 66 = 1 := by kernel_rfl
theorem cellsInt : Tryz.prog.cellsOf 3 = 1 := by kernel_rfl

section
variable {H : Type} {enc : TypeId × Value → H} {W : World} {fuel : Nat} {cs : List Value} {y : DataW H × List MemPlace}
theorem lex_came (h : DataW.trod enc Tryz.prog W 0 (fun _ => true) true fuel 68 cs = some y) :
    ∃ x : Lex, cs = [.int .i64 x.kind, .int .i64 x.place, .int .u64 ((word x.set 0 : Nat) : Int), .int .u64 ((word x.set 1 : Nat) : Int), .int .u64 ((word x.set 2 : Nat) : Int), .int .u64 ((word x.set 3 : Nat) : Int), .int .i64 x.lo, .int .i64 x.hi] := by
  obtain ⟨xs, n, _, _, hl, hxl, hf⟩ := DataW.trod_struct Tryz.underlying68 h
  rw [cellsLex] at hl
  obtain ⟨v0, v1, v2, v3, v4, v5, v6, v7, rfl⟩ : ∃ v0 v1 v2 v3 v4 v5 v6 v7, cs = [v0, v1, v2, v3, v4, v5, v6, v7] := by
    match cs, hl with
    | [a, b, c, d, e, f, g, h], _ => exact ⟨a, b, c, d, e, f, g, h, rfl⟩
  have g0 : DataW.trod enc Tryz.prog W 0 (fun _ => true) true n 66 (([v0, v1, v2, v3, v4, v5, v6, v7].drop 0).take (Tryz.prog.cellsOf 66)) = xs[0]? := hf 0 _ rfl
  have g1 : DataW.trod enc Tryz.prog W 0 (fun _ => true) true n 3 (([v0, v1, v2, v3, v4, v5, v6, v7].drop 1).take (Tryz.prog.cellsOf 3)) = xs[1]? := hf 1 _ rfl
  have g2 : DataW.trod enc Tryz.prog W 0 (fun _ => true) true n 27 (([v0, v1, v2, v3, v4, v5, v6, v7].drop 2).take (Tryz.prog.cellsOf 27)) = xs[2]? := hf 2 _ rfl
  have g3 : DataW.trod enc Tryz.prog W 0 (fun _ => true) true n 3 (([v0, v1, v2, v3, v4, v5, v6, v7].drop 6).take (Tryz.prog.cellsOf 3)) = xs[3]? := hf 3 _ rfl
  have g4 : DataW.trod enc Tryz.prog W 0 (fun _ => true) true n 3 (([v0, v1, v2, v3, v4, v5, v6, v7].drop 7).take (Tryz.prog.cellsOf 3)) = xs[4]? := hf 4 _ rfl
  have hs : ∀ i, i < 5 → ∃ z, xs[i]? = some z := fun i hi => ⟨_, List.getElem?_eq_getElem (by rw [hxl]; exact hi)⟩
  obtain ⟨z0, e0⟩ := hs 0 (by decide)
  obtain ⟨z1, e1⟩ := hs 1 (by decide)
  obtain ⟨z2, e2⟩ := hs 2 (by decide)
  obtain ⟨z3, e3⟩ := hs 3 (by decide)
  obtain ⟨z4, e4⟩ := hs 4 (by decide)
  rw [e0] at g0
  rw [e1] at g1
  rw [e2] at g2
  rw [e3] at g3
  rw [e4] at g4
  rw [cellsKind] at g0
  rw [cellsInt] at g1 g3 g4
  rw [cellsSet] at g2
  obtain ⟨a0, q0, _, _⟩ := DataW.trod_int Tryz.underlying66 g0
  obtain ⟨a1, q1, _, _⟩ := DataW.trod_int Tryz.underlying3 g1
  obtain ⟨a3, q3, _, _⟩ := DataW.trod_int Tryz.underlying3 g3
  obtain ⟨a4, q4, _, _⟩ := DataW.trod_int Tryz.underlying3 g4
  obtain ⟨us, m, _, _, _, hul, hu⟩ := DataW.trod_array Tryz.underlying27 g2
  have ht : ∀ i, i < 4 → ∃ z, us[i]? = some z := fun i hi => ⟨_, List.getElem?_eq_getElem (by rw [hul]; exact hi)⟩
  have u0 := hu 0 (by decide)
  have u1 := hu 1 (by decide)
  have u2 := hu 2 (by decide)
  have u3 := hu 3 (by decide)
  obtain ⟨t0, f0⟩ := ht 0 (by decide)
  obtain ⟨t1, f1⟩ := ht 1 (by decide)
  obtain ⟨t2, f2⟩ := ht 2 (by decide)
  obtain ⟨t3, f3⟩ := ht 3 (by decide)
  rw [f0, cellsWord] at u0
  rw [f1, cellsWord] at u1
  rw [f2, cellsWord] at u2
  rw [f3, cellsWord] at u3
  obtain ⟨b0, r0, _, w0⟩ := DataW.trod_int Tryz.underlying25 u0
  obtain ⟨b1, r1, _, w1⟩ := DataW.trod_int Tryz.underlying25 u1
  obtain ⟨b2, r2, _, w2⟩ := DataW.trod_int Tryz.underlying25 u2
  obtain ⟨b3, r3, _, w3⟩ := DataW.trod_int Tryz.underlying25 u3
  simp at q0 q1 q3 q4 r0 r1 r2 r3
  subst q0 q1 q3 q4 r0 r1 r2 r3
  obtain ⟨s0, s0'⟩ := u64_of_wf w0
  obtain ⟨s1, s1'⟩ := u64_of_wf w1
  obtain ⟨s2, s2'⟩ := u64_of_wf w2
  obtain ⟨s3, s3'⟩ := u64_of_wf w3
  obtain ⟨n0, rfl⟩ := Int.eq_ofNat_of_zero_le s0
  obtain ⟨n1, rfl⟩ := Int.eq_ofNat_of_zero_le s1
  obtain ⟨n2, rfl⟩ := Int.eq_ofNat_of_zero_le s2
  obtain ⟨n3, rfl⟩ := Int.eq_ofNat_of_zero_le s3
  obtain ⟨k0, k1, k2, k3⟩ := word_bitsOf (a := n0) (b := n1) (c := n2) (d := n3) (by omega) (by omega) (by omega) (by omega)
  exact ⟨⟨a0, a1, bitsOf n0 n1 n2 n3, a3, a4⟩, by rw [k0, k1, k2, k3]⟩

/-- A slice of lexemes that came in. -/
theorem lexs_came {A : Option Addr} {len cap : Nat} {d : DataW H} {p : List MemPlace}
    (h : DataW.Trod enc Tryz.prog W 0 (fun _ => true) true 63 (.slice A len cap) d p) :
    ∃ L : List Lex, L.length = len ∧ LexsAt W W.heap.size A L ∧ len ≤ cap ∧ (d = .nil ∧ len = 0 ∨ ∃ es rest : List (DataW H), d = .slice es rest ∧ es.length = len) := by
  obtain ⟨fuel, hf⟩ := h
  rcases DataW.trod_slice Tryz.underlying63 hf with ⟨hcs, hd⟩ | ⟨a, l, c, elems, rest, n, _, hcs, hd, hb, hlc, hm, hel, hc, _, _⟩
  · simp [Value.cells] at hcs
    obtain ⟨rfl, rfl, rfl⟩ := hcs
    exact ⟨[], rfl, fun h => absurd h (by simp), Nat.le_refl _, .inl ⟨(Prod.mk.inj hd).1, rfl⟩⟩
  · simp [Value.cells] at hcs
    obtain ⟨rfl, rfl, rfl⟩ := hcs
    have hd' := (Prod.mk.inj hd).1
    rw [cellsLex] at hc
    have hx : ∀ i, i < len → ∃ x : Lex, ∃ cs, W.cells? 0 (a.add (i * 8)) 8 = some cs ∧ cs = [.int .i64 x.kind, .int .i64 x.place, .int .u64 ((word x.set 0 : Nat) : Int), .int .u64 ((word x.set 1 : Nat) : Int), .int .u64 ((word x.set 2 : Nat) : Int), .int .u64 ((word x.set 3 : Nat) : Int), .int .i64 x.lo, .int .i64 x.hi] := by
      intro i hi
      have h1 := hc i hi
      rw [List.getElem?_eq_getElem (by omega)] at h1
      obtain ⟨cs, h2, h3⟩ := Option.bind_eq_some_iff.1 h1
      obtain ⟨x, hx⟩ := lex_came h3
      exact ⟨x, cs, h2, hx⟩
    classical
    let f : Nat → Lex := fun i => if hi : i < len then Classical.choose (hx i hi) else ⟨0, 0, fun _ => false, 0, 0⟩
    have hf2 : ∀ i (hi : i < len), f i = Classical.choose (hx i hi) := fun i hi => dif_pos hi
    refine ⟨(List.range len).map f, by simp, fun hpos => ?_, hlc, .inr ⟨_, _, hd', by simpa using hel⟩⟩
    have hpos' : 0 < len := by simpa using hpos
    obtain ⟨bl, off, spot⟩ := a
    obtain ⟨x0, cs0, hcs0, hx0⟩ := hx 0 hpos'
    obtain ⟨_, _, hcell0⟩ := World.cells?_some hcs0
    have h00 := hcell0 0 (by decide)
    rw [hx0] at h00
    have hspot : spot = none := by
      have := World.cell?_spot (v := .int .i64 x0.kind) (by simpa using h00)
      simpa [Addr.add] using this
    subst hspot
    refine ⟨bl, off, rfl, ?_, ?_⟩
    · have := World.block_lt_of_cell? W _ (u := .int .i64 x0.kind) (by simpa using h00)
      simpa [addr_add] using this
    · intro k x hk
      have hkl : k < len := by
        have := (List.getElem?_eq_some_iff.mp hk).1
        simpa using this
      have hkx : f k = x := by
        rw [List.getElem?_map, List.getElem?_range hkl] at hk
        simpa using hk
      have hsp := Classical.choose_spec (hx k hkl)
      rw [← hf2 k hkl, hkx] at hsp
      obtain ⟨cs, h1, h2⟩ := hsp
      obtain ⟨_, _, h3⟩ := World.cells?_some h1
      rw [h2] at h3
      have g : ∀ j u, j < 8 → [Value.int .i64 x.kind, .int .i64 x.place, .int .u64 ((word x.set 0 : Nat) : Int), .int .u64 ((word x.set 1 : Nat) : Int), .int .u64 ((word x.set 2 : Nat) : Int), .int .u64 ((word x.set 3 : Nat) : Int), .int .i64 x.lo, .int .i64 x.hi][j]? = some u → W.cell? ⟨bl, off + k * 8 + j, none⟩ = some u := fun j u hj hu => by
        have := h3 j hj
        rw [addr_add, addr_add, hu] at this
        exact this
      exact ⟨g 0 _ (by decide) rfl, g 1 _ (by decide) rfl, g 2 _ (by decide) rfl, g 3 _ (by decide) rfl, g 4 _ (by decide) rfl, g 5 _ (by decide) rfl, g 6 _ (by decide) rfl, g 7 _ (by decide) rfl⟩
end

/-- Their number. -/
theorem lexs_few {H : Type} {ts : List TypeId} {ds : List (DataW H)} {j len : Nat} {d : DataW H} (hsz : (DataW.weightsEach Tryz.prog ts ds).all (· ≤ reachBytes) = true) (ht : ts[j]? = some 63) (hd : ds[j]? = some d)
    (h : d = .nil ∧ len = 0 ∨ ∃ es rest : List (DataW H), d = .slice es rest ∧ es.length = len) : len ≤ 140737488355328 := by
  rcases h with ⟨_, h0⟩ | ⟨es, rest, rfl, he⟩
  · omega
  · have hs := sized_slice hsz ht hd Tryz.underlying63
    rw [bytesLex] at hs
    have hr : reachBytes = 140737488351232 := by decide
    rw [hr] at hs
    omega

end Go.Proofs.YtchfipjclbpomaaGreat
namespace Go.Proofs.YtchfipjclbpomaaGreat
open Go.ChangeShapes Go.WideShapes Go.ChangeAt Go.RowKit
set_option linter.unusedSimpArgs false
set_option linter.unusedVariables false
set_option maxRecDepth 100000

theorem cellsNode : Tryz.prog.cellsOf 29 = 8 := by kernel_rfl
theorem cellsNodes : Tryz.prog.cellsOf 22 = 1 := by kernel_rfl
theorem cellsTKind : Tryz.prog.cellsOf 24 = 1 := by kernel_rfl
theorem set_words {n0 n1 n2 n3 : Nat} (h0 : n0 < 18446744073709551616) (h1 : n1 < 18446744073709551616) (h2 : n2 < 18446744073709551616) (h3 : n3 < 18446744073709551616) :
    ∃ s : Nat, word s.testBit 0 = n0 ∧ word s.testBit 1 = n1 ∧ word s.testBit 2 = n2 ∧ word s.testBit 3 = n3 := by
  obtain ⟨k0, k1, k2, k3⟩ := word_bitsOf h0 h1 h2 h3
  have h : ∀ i, i < 4 → word (ofBits (bitsOf n0 n1 n2 n3) 256).testBit i = word (bitsOf n0 n1 n2 n3) i := fun i hi => word_congr (fun j hj => by rw [testBit_ofBits]; simp; omega)
  exact ⟨ofBits (bitsOf n0 n1 n2 n3) 256, by rw [h 0 (by decide), k0], by rw [h 1 (by decide), k1], by rw [h 2 (by decide), k2], by rw [h 3 (by decide), k3]⟩
theorem bulk_pos {H : Type} (d : DataW H) : 1 ≤ Rows.uptoBulk d := by
  cases d with
  | lit l => cases l <;> simp [Rows.uptoBulk]
  | _ => simp [Rows.uptoBulk]
theorem bulkAll_mem {H : Type} : ∀ {ds : List (DataW H)} {d : DataW H}, d ∈ ds → Rows.uptoBulk d ≤ Rows.uptoBulkAll ds
  | e :: r, d, h => by
    rcases List.mem_cons.1 h with rfl | h
    · simp [Rows.uptoBulkAll]
    · have := bulkAll_mem h
      simp [Rows.uptoBulkAll]
      omega

section
variable {H : Type} {enc : TypeId × Value → H} {W : World}
/-- What is known of trees that came in by a fuel: a slice of them. -/
def CameF (enc : TypeId × Value → H) (W : World) (fuel : Nat) : Prop := ∀ (A : Option Addr) (len cap : Nat) (y : DataW H × List MemPlace),
  DataW.trod enc Tryz.prog W 0 (fun _ => true) true fuel 22 [.slice A len cap] = some y → ∃ F : Trees, F.len = len ∧ TreesAt W (fun b => b < W.heap.size) F A ∧ len ≤ cap ∧ F.size ≤ Rows.uptoBulk y.1
theorem node_came {fuel : Nat} {cs : List Value} {y : DataW H × List MemPlace} (ih : ∀ n, n < fuel → CameF enc W n) (h : DataW.trod enc Tryz.prog W 0 (fun _ => true) true fuel 29 cs = some y) :
    ∃ (x : Nd) (B : Option Addr) (cap : Nat), cs = ndCell x B cap ∧ x.kids.len ≤ cap ∧ TreesAt W (fun b => b < W.heap.size) x.kids B ∧ x.size ≤ Rows.uptoBulk y.1 := by
  obtain ⟨xs, n, hfn, hy, hl, hxl, hf⟩ := DataW.trod_struct Tryz.underlying29 h
  rw [cellsNode] at hl
  obtain ⟨v0, v1, v2, v3, v4, v5, v6, v7, rfl⟩ : ∃ v0 v1 v2 v3 v4 v5 v6 v7, cs = [v0, v1, v2, v3, v4, v5, v6, v7] := by
    match cs, hl with
    | [a, b, c, d, e, f, g, h], _ => exact ⟨a, b, c, d, e, f, g, h, rfl⟩
  have g0 : DataW.trod enc Tryz.prog W 0 (fun _ => true) true n 24 (([v0, v1, v2, v3, v4, v5, v6, v7].drop 0).take (Tryz.prog.cellsOf 24)) = xs[0]? := hf 0 _ rfl
  have g1 : DataW.trod enc Tryz.prog W 0 (fun _ => true) true n 27 (([v0, v1, v2, v3, v4, v5, v6, v7].drop 1).take (Tryz.prog.cellsOf 27)) = xs[1]? := hf 1 _ rfl
  have g2 : DataW.trod enc Tryz.prog W 0 (fun _ => true) true n 22 (([v0, v1, v2, v3, v4, v5, v6, v7].drop 5).take (Tryz.prog.cellsOf 22)) = xs[2]? := hf 2 _ rfl
  have g3 : DataW.trod enc Tryz.prog W 0 (fun _ => true) true n 3 (([v0, v1, v2, v3, v4, v5, v6, v7].drop 6).take (Tryz.prog.cellsOf 3)) = xs[3]? := hf 3 _ rfl
  have g4 : DataW.trod enc Tryz.prog W 0 (fun _ => true) true n 3 (([v0, v1, v2, v3, v4, v5, v6, v7].drop 7).take (Tryz.prog.cellsOf 3)) = xs[4]? := hf 4 _ rfl
  have hs : ∀ i, i < 5 → ∃ z, xs[i]? = some z := fun i hi => ⟨_, List.getElem?_eq_getElem (by rw [hxl]; exact hi)⟩
  obtain ⟨z0, e0⟩ := hs 0 (by decide)
  obtain ⟨z1, e1⟩ := hs 1 (by decide)
  obtain ⟨z2, e2⟩ := hs 2 (by decide)
  obtain ⟨z3, e3⟩ := hs 3 (by decide)
  obtain ⟨z4, e4⟩ := hs 4 (by decide)
  rw [e0] at g0
  rw [e1] at g1
  rw [e2] at g2
  rw [e3] at g3
  rw [e4] at g4
  rw [cellsTKind] at g0
  rw [cellsInt] at g3 g4
  rw [cellsNodes] at g2
  rw [cellsSet] at g1
  obtain ⟨a0, q0, _, _⟩ := DataW.trod_int Tryz.underlying24 g0
  obtain ⟨a3, q3, _, _⟩ := DataW.trod_int Tryz.underlying3 g3
  obtain ⟨a4, q4, _, _⟩ := DataW.trod_int Tryz.underlying3 g4
  obtain ⟨us, m, _, _, _, hul, hu⟩ := DataW.trod_array Tryz.underlying27 g1
  have ht : ∀ i, i < 4 → ∃ z, us[i]? = some z := fun i hi => ⟨_, List.getElem?_eq_getElem (by rw [hul]; exact hi)⟩
  have u0 := hu 0 (by decide)
  have u1 := hu 1 (by decide)
  have u2 := hu 2 (by decide)
  have u3 := hu 3 (by decide)
  obtain ⟨t0, f0⟩ := ht 0 (by decide)
  obtain ⟨t1, f1⟩ := ht 1 (by decide)
  obtain ⟨t2, f2⟩ := ht 2 (by decide)
  obtain ⟨t3, f3⟩ := ht 3 (by decide)
  rw [f0, cellsWord] at u0
  rw [f1, cellsWord] at u1
  rw [f2, cellsWord] at u2
  rw [f3, cellsWord] at u3
  obtain ⟨b0, r0, _, w0⟩ := DataW.trod_int Tryz.underlying25 u0
  obtain ⟨b1, r1, _, w1⟩ := DataW.trod_int Tryz.underlying25 u1
  obtain ⟨b2, r2, _, w2⟩ := DataW.trod_int Tryz.underlying25 u2
  obtain ⟨b3, r3, _, w3⟩ := DataW.trod_int Tryz.underlying25 u3
  have hv5 : ∃ A len cap, v5 = .slice A len cap := by
    rcases DataW.trod_slice Tryz.underlying22 g2 with ⟨hcs, _⟩ | ⟨a, l, c, _, _, _, _, hcs, _⟩
    · simp at hcs; exact ⟨_, _, _, hcs⟩
    · simp at hcs; exact ⟨_, _, _, hcs⟩
  obtain ⟨A, len, cap, rfl⟩ := hv5
  obtain ⟨F, hF1, hF2, hF3, hF4⟩ := ih n (by omega) A len cap z2 (by simpa using g2)
  simp at q0 q3 q4 r0 r1 r2 r3
  subst q0 q3 q4 r0 r1 r2 r3
  obtain ⟨s0, s0'⟩ := u64_of_wf w0
  obtain ⟨s1, s1'⟩ := u64_of_wf w1
  obtain ⟨s2, s2'⟩ := u64_of_wf w2
  obtain ⟨s3, s3'⟩ := u64_of_wf w3
  obtain ⟨n0, rfl⟩ := Int.eq_ofNat_of_zero_le s0
  obtain ⟨n1, rfl⟩ := Int.eq_ofNat_of_zero_le s1
  obtain ⟨n2, rfl⟩ := Int.eq_ofNat_of_zero_le s2
  obtain ⟨n3, rfl⟩ := Int.eq_ofNat_of_zero_le s3
  obtain ⟨s, k0, k1, k2, k3⟩ := set_words (n0 := n0) (n1 := n1) (n2 := n2) (n3 := n3) (by omega) (by omega) (by omega) (by omega)
  have hb : Rows.uptoBulk z2.1 ≤ Rows.uptoBulkAll (xs.map (·.1)) := bulkAll_mem (List.mem_map.2 ⟨z2, List.mem_of_getElem? e2, rfl⟩)
  refine ⟨⟨a0, s, F, a3, a4⟩, A, cap, by unfold ndCell; simp only; rw [k0, k1, k2, k3, hF1], by simpa only [hF1] using hF3, hF2, ?_⟩
  rw [hy]
  unfold Nd.size
  simp only [Rows.uptoBulk]
  omega
theorem bulk_sum {H : Type} : ∀ (es : List (DataW H)) (l : List Nat), es.length = l.length → (∀ (i : Nat) (d : DataW H) (k : Nat), es[i]? = some d → l[i]? = some k → k ≤ Rows.uptoBulk d) → l.sum ≤ Rows.uptoBulkAll es
  | [], [], _, _ => by simp
  | [], _ :: _, h, _ => by simp at h
  | _ :: _, [], h, _ => by simp at h
  | d :: es, k :: l, h, hk => by
    have h1 := bulk_sum es l (by simpa using h) (fun i d k h1 h2 => hk (i + 1) d k (by simpa using h1) (by simpa using h2))
    have h2 := hk 0 d k rfl rfl
    simp only [Rows.uptoBulkAll, List.sum_cons]
    omega
theorem size_sum (l : List Nd) : (Trees.of l).size = (l.map Nd.size).sum := by
  induction l with
  | nil => rfl
  | cons x l ih => rw [Trees.of, Trees.size, ih, List.map_cons, List.sum_cons]; rfl
theorem slice_came (fuel : Nat) (ih : ∀ n, n < fuel → CameF enc W n) : CameF enc W fuel := by
  intro A len cap y h
  rcases DataW.trod_slice Tryz.underlying22 h with ⟨hcs, hd⟩ | ⟨a, l, c, elems, rest, n, hfn, hcs, hd, hb, hlc, hm, hel, hc, _, _⟩
  · simp at hcs
    obtain ⟨rfl, rfl, rfl⟩ := hcs
    exact ⟨.nil, rfl, trivial, Nat.le_refl _, Nat.zero_le _⟩
  · simp at hcs
    obtain ⟨rfl, rfl, rfl⟩ := hcs
    rw [cellsNode] at hc
    have hx : ∀ i, i < len → ∃ (x : Nd) (B : Option Addr) (capx : Nat) (cs : List Value) (e : DataW H × List MemPlace), elems[i]? = some e ∧ W.cells? 0 (a.add (i * 8)) 8 = some cs ∧ cs = ndCell x B capx ∧ x.kids.len ≤ capx ∧ TreesAt W (fun b => b < W.heap.size) x.kids B ∧ x.size ≤ Rows.uptoBulk e.1 := by
      intro i hi
      have h1 := hc i hi
      rw [List.getElem?_eq_getElem (by omega)] at h1
      obtain ⟨cs, h2, h3⟩ := Option.bind_eq_some_iff.1 h1
      obtain ⟨x, B, capx, k1, k2, k3, k4⟩ := node_came (fun m hm => ih m (by omega)) h3
      exact ⟨x, B, capx, cs, _, List.getElem?_eq_getElem (by omega), h2, k1, k2, k3, k4⟩
    classical
    let f : Nat → Nd := fun i => if hi : i < len then Classical.choose (hx i hi) else ⟨0, 0, .nil, 0, 0⟩
    have hf2 : ∀ i (hi : i < len), f i = Classical.choose (hx i hi) := fun i hi => dif_pos hi
    have hspec : ∀ i (hi : i < len), ∃ (B : Option Addr) (capx : Nat) (cs : List Value) (e : DataW H × List MemPlace), elems[i]? = some e ∧ W.cells? 0 (a.add (i * 8)) 8 = some cs ∧ cs = ndCell (f i) B capx ∧ (f i).kids.len ≤ capx ∧ TreesAt W (fun b => b < W.heap.size) (f i).kids B ∧ (f i).size ≤ Rows.uptoBulk e.1 := fun i hi => by
      have := Classical.choose_spec (hx i hi)
      rw [← hf2 i hi] at this
      exact this
    have hget : ∀ i, i < len → ((List.range len).map f)[i]? = some (f i) := fun i hi => by rw [List.getElem?_map, List.getElem?_range hi]; rfl
    refine ⟨Trees.of ((List.range len).map f), by rw [Trees.len_of]; simp, ?_, hlc, ?_⟩
    · rcases Nat.eq_zero_or_pos len with rfl | hpos
      · exact TreesAt.nilAt (by rw [Trees.len_of]; simp)
      obtain ⟨bl, off, spot⟩ := a
      obtain ⟨B0, c0, cs0, z0, _, hcs0, hx0, _⟩ := hspec 0 hpos
      obtain ⟨_, _, hcell0⟩ := World.cells?_some hcs0
      have h00 := hcell0 0 (by decide)
      rw [hx0] at h00
      have hspot : spot = none := by
        have := World.cell?_spot (v := .int .i64 (f 0).kind) (by simpa [ndCell] using h00)
        simpa [Addr.add] using this
      subst hspot
      refine TreesAt.mk ?_ (fun i x hxi => ?_)
      · have := World.block_lt_of_cell? W _ (u := .int .i64 (f 0).kind) (by simpa [ndCell] using h00)
        simpa [addr_add] using this
      · rw [Trees.list_of] at hxi
        have hi : i < len := by
          have := (List.getElem?_eq_some_iff.mp hxi).1
          simpa using this
        rw [hget i hi] at hxi
        obtain rfl := Option.some.inj hxi
        obtain ⟨B, capx, cs, e, _, h1, h2, h3, h4, _⟩ := hspec i hi
        obtain ⟨_, _, h5⟩ := World.cells?_some h1
        rw [h2] at h5
        have g : ∀ j u, j < 8 → (ndCell (f i) B capx)[j]? = some u → W.cell? ⟨bl, off + i * 8 + j, none⟩ = some u := fun j u hj hu => by
          have := h5 j hj
          rw [addr_add, addr_add, hu] at this
          exact this
        exact ⟨B, capx, h3, ⟨g 0 _ (by decide) rfl, g 1 _ (by decide) rfl, g 2 _ (by decide) rfl, g 3 _ (by decide) rfl, g 4 _ (by decide) rfl, g 5 _ (by decide) rfl, g 6 _ (by decide) rfl, g 7 _ (by decide) rfl⟩, h4⟩
    · rw [hd, size_sum]
      simp only [Rows.uptoBulk]
      have := bulk_sum (elems.map (·.1)) (((List.range len).map f).map Nd.size) (by simpa using hel) (fun i d k h1 h2 => by
        have hi : i < len := by
          have := (List.getElem?_eq_some_iff.mp h2).1
          simpa using this
        rw [List.getElem?_map, hget i hi] at h2
        obtain rfl := Option.some.inj h2
        obtain ⟨B, capx, cs, e, he, _, _, _, _, h6⟩ := hspec i hi
        rw [List.getElem?_map, he] at h1
        obtain rfl := Option.some.inj h1
        exact h6)
      omega
theorem came_all : ∀ fuel, CameF enc W fuel := fun fuel => by
  induction fuel using Nat.strongRecOn with
  | _ n ih => exact slice_came n ih
/-- A slice of trees that came in. -/
theorem trees_came {A : Option Addr} {len cap : Nat} {d : DataW H} {p : List MemPlace} (h : DataW.Trod enc Tryz.prog W 0 (fun _ => true) true 22 (.slice A len cap) d p) :
    ∃ F : Trees, F.len = len ∧ TreesAt W (fun b => b < W.heap.size) F A ∧ len ≤ cap ∧ F.size ≤ Rows.uptoBulk d := by
  obtain ⟨fuel, hf⟩ := h
  exact came_all fuel A len cap (d, p) hf
/-- A tree that came in. -/
theorem tree_came {v : Value} {d : DataW H} {p : List MemPlace} (h : DataW.Trod enc Tryz.prog W 0 (fun _ => true) true 29 v d p) :
    ∃ (x : Nd) (B : Option Addr) (cap : Nat), v.cells.toList = ndCell x B cap ∧ x.kids.len ≤ cap ∧ TreesAt W (fun b => b < W.heap.size) x.kids B ∧ x.size ≤ Rows.uptoBulk d := by
  obtain ⟨fuel, hf⟩ := h
  exact node_came (fun n _ => came_all n) hf
end
end Go.Proofs.YtchfipjclbpomaaGreat
namespace Go.Proofs.YtchfipjclbpomaaGreat
open Go.RowKit
set_option linter.unusedSimpArgs false
set_option linter.unusedVariables false
set_option maxRecDepth 100000

def topN : Nat := 1099511627776
/-- At A stand numbers. -/
def NumsAt (w : World) (A : Option Addr) (xs : List Nat) : Prop := ∀ i, i < xs.length → ∃ b o, A = some ⟨b, o, none⟩ ∧ w.cell? ⟨b, o + i, none⟩ = some (.int .i64 ((xs.getD i 0 : Nat) : Int))
theorem NumsAt.below {w w' : World} {A : Option Addr} {xs : List Nat} (h : NumsAt w A xs) (hb : Below w.heap.size w w') : NumsAt w' A xs := fun i hi => by
  obtain ⟨b, o, hA, hc⟩ := h i hi
  exact ⟨b, o, hA, (hb.cell (p := ⟨b, _, none⟩) (World.block_lt_of_cell? w _ hc)).trans hc⟩
theorem take_sum (xs : List Nat) (k : Nat) (h : k < xs.length) : (xs.take (k + 1)).sum = (xs.take k).sum + xs.getD k 0 := by
  rw [List.take_succ_eq_append_getElem h, List.sum_append]
  simp [List.getD, h]

theorem add1_go (a b g : Nat) (w : World) (ha : a ≤ topN) (hb : b ≤ topN) (hg : w.cell? ⟨g, 0, none⟩ = some (.int .i64 1099511627776)) :
    Calls Tryz.prog 55 #[.int .i64 (a : Int), .int .i64 (b : Int), .pointer (some ⟨g, 0, none⟩)] w fun e w' => e = .returned (.int .i64 ((min topN (a + b) : Nat) : Int)) ∧ w = w' := by
  unfold topN at *
  rcases Nat.lt_or_ge 1099511627776 (a + b) with h | h
  · have h1 : (1099511627776 : Int) - a < b := by omega
    go_enter Tryz.func55, Tryz.ntmps55
    go_wp2
    go_ret
    exact ⟨ret_i (by omega), rfl⟩
  · have h1 : ¬ (1099511627776 : Int) - a < b := by omega
    go_enter Tryz.func55, Tryz.ntmps55
    go_wp2
    go_ret
    exact ⟨ret_i (by omega), rfl⟩
set_option maxHeartbeats 1000000 in
theorem foldadd_go (A : Option Addr) (cap g : Nat) (xs : List Nat) (w : World) (hA : NumsAt w A xs) (hx : ∀ x ∈ xs, x ≤ topN) (hl : xs.length ≤ 100000) (hg : w.cell? ⟨g, 0, none⟩ = some (.int .i64 1099511627776)) :
    Calls Tryz.prog 54 #[.int .i64 0, .slice A xs.length cap, .func (.func 55) #[] #[.pointer (some ⟨g, 0, none⟩)]] w fun e w' => e = .returned (.int .i64 ((min topN xs.sum : Nat) : Int)) ∧ w = w' := by
  have HA := Lib.hid hA
  have HX := Lib.hid hx
  have HG := Lib.hid hg
  clear hA hx hg
  go_enter Tryz.func54, Tryz.ntmps54
  go_wp2
  go_loop [7, 13] (fun v i => ∃ k : Nat, k ≤ xs.length ∧ i = .int .i64 (k : Int) ∧ v = .int .i64 ((min topN (xs.take k).sum : Nat) : Int)) (fun _ i => xs.length - (intOf i).toNat)
  case atStart => exact ⟨0, Nat.zero_le _, rfl, by simp⟩
  case round =>
    obtain ⟨k, hk, rfl, rfl⟩ := hrel
    by_cases hlt : k < xs.length
    · obtain ⟨b, o, rfl, hc⟩ := HA.out k hlt
      have hts := take_sum xs k hlt
      have hxk : xs.getD k 0 ≤ topN := HX.out _ (by simp [List.getD, hlt])
      have HC := Lib.hid (add1_go (min topN (xs.take k).sum) (xs.getD k 0) g w (Nat.min_le_left _ _) hxk HG.out)
      have HR := Lib.hid (show min topN (min topN (xs.take k).sum + xs.getD k 0) = min topN (xs.take (k + 1)).sum by rw [hts]; omega)
      clear hts
      generalize xs.getD k 0 = x at *
      generalize min topN (xs.take k).sum = v at *
      have hx0 : ¬ ((x : Int) < 0) := by omega
      go_wp2_with fail
      refine HC.out.mono ?_
      rintro e w' ⟨rfl, rfl⟩
      rw [HR.out]
      dsimp only
      go_wp2
      go_round
      case rel => exact ⟨k + 1, by omega, by go_num, rfl⟩
      case measure => simp [intOf]; omega
    · obtain rfl : k = xs.length := by omega
      go_wp2
      go_ret
      exact ⟨rfl, rfl⟩
/-- num.Add at the top. -/
theorem nadd_go (A : Option Addr) (cap : Nat) (xs : List Nat) (w : World) (hA : NumsAt w A xs) (hx : ∀ x ∈ xs, x ≤ topN) (hl : xs.length ≤ 100000) :
    Calls Tryz.prog 34 #[.int .i64 1099511627776, .slice A xs.length cap] w fun e w' => e = .returned (.int .i64 ((min topN xs.sum : Nat) : Int)) ∧ Below w.heap.size w w' := by
  have hb1 : Below w.heap.size w (w.alloc (.cells #[.int .i64 1099511627776] 3)) := (Below.refl _ _).alloc (Nat.le_refl _) _
  have HC := Lib.hid (foldadd_go A cap w.heap.size xs _ (hA.below hb1) hx hl ((Blk.new w 3 #[.int .i64 1099511627776]).cell 0))
  have HB := Lib.hid hb1
  clear hA hx hb1
  go_enter Tryz.func34, Tryz.ntmps34
  go_wp2_with fail
  refine HC.out.mono ?_
  rintro e w' ⟨rfl, rfl⟩
  dsimp only
  go_wp2
  go_ret
  exact ⟨rfl, HB.out⟩
set_option maxHeartbeats 1000000 in
theorem radd_go (A : Option Addr) (cap : Nat) (xs : List Nat) (w : World) (hA : NumsAt w A xs) (hx : ∀ x ∈ xs, x ≤ topN) (hl : xs.length ≤ 100000) :
    Calls Tryz.prog 12 #[.int .i64 1099511627776, .slice A xs.length cap] w fun e w' => e = .returned (.int .i64 ((min topN xs.sum : Nat) : Int)) ∧ w = w' := by
  have HA := Lib.hid hA
  have HX := Lib.hid hx
  have HS := Lib.hid (show ∀ k, (xs.take k).sum ≤ xs.sum from fun k => by
    conv => rhs; rw [← List.take_append_drop k xs, List.sum_append]
    omega)
  clear hA hx
  go_enter Tryz.func12, Tryz.ntmps12
  go_wp2
  go_loop [5, 6] (fun v i => ∃ k : Nat, k ≤ xs.length ∧ i = .int .i64 (k : Int) ∧ (xs.take k).sum ≤ 1099511627776 ∧ v = .int .i64 (((xs.take k).sum : Nat) : Int)) (fun _ i => xs.length - (intOf i).toNat)
  case atStart => exact ⟨0, Nat.zero_le _, rfl, by simp, by simp⟩
  case round =>
    obtain ⟨k, hk, rfl, hle, rfl⟩ := hrel
    by_cases hlt : k < xs.length
    · obtain ⟨b, o, rfl, hc⟩ := HA.out k hlt
      have hts := take_sum xs k hlt
      have hxk : xs.getD k 0 ≤ topN := HX.out _ (by simp [List.getD, hlt])
      have hsm := HS.out (k + 1)
      unfold topN at hxk
      have HT := Lib.hid hts
      rcases Nat.lt_or_ge 1099511627776 ((xs.take k).sum + xs.getD k 0) with h | h
      · have HV := Lib.hid (show min topN xs.sum = 1099511627776 by unfold topN; omega)
        clear hts hsm
        generalize xs.getD k 0 = x at *
        generalize (xs.take k).sum = v at *
        have h1 : (1099511627776 : Int) - v < x := by omega
        have h2 : ¬ ((x : Int) < 0) := by omega
        go_wp2
        go_ret
        exact ⟨ret_i (by rw [HV.out]; rfl), rfl⟩
      · clear hts hsm
        rw [← HT.out] at h
        generalize hsx : (xs.take (k + 1)).sum = y at *
        generalize xs.getD k 0 = x at *
        generalize hsv : (xs.take k).sum = v at *
        have HY := Lib.hid hsx
        have hT := HT.out
        have h1 : ¬ (1099511627776 : Int) - v < x := by omega
        have h2 : ¬ ((x : Int) < 0) := by omega
        have Hsv := Lib.hid hsv
        clear hT hsx hsv
        go_wp2
        go_round
        case rel => exact ⟨k + 1, by omega, by go_num, by rw [HY.out]; exact h, congrArg _ (by rw [HY.out, HT.out]; omega)⟩
        case measure => simp [intOf]; omega
    · obtain rfl : k = xs.length := by omega
      rw [List.take_length] at hle ⊢
      have HV := Lib.hid (show min topN xs.sum = xs.sum by unfold topN; omega)
      go_wp2
      go_ret
      exact ⟨ret_i (by rw [HV.out]), rfl⟩

theorem div_lt (x y : Nat) (hy : 0 < y) : (1099511627776 : Int) / (y : Int) < (x : Int) ↔ 1099511627776 < x * y := by
  have e : (1099511627776 : Int) / (y : Int) = ((1099511627776 / y : Nat) : Int) := rfl
  rw [e, Int.ofNat_lt, Nat.div_lt_iff_lt_mul hy]
set_option maxHeartbeats 1000000 in
theorem mul1_ok (a b be g : Nat) (w : World) (ha : a ≤ topN) (hb : b ≤ topN) (hab : a * b ≤ topN) (hbe : w.cell? ⟨be, 0, none⟩ = some (.bool false)) (hg : w.cell? ⟨g, 0, none⟩ = some (.int .i64 1099511627776)) :
    Calls Tryz.prog 85 #[.int .i64 (a : Int), .int .i64 (b : Int), .pointer (some ⟨be, 0, none⟩), .pointer (some ⟨g, 0, none⟩)] w fun e w' => e = .returned (.int .i64 ((a * b : Nat) : Int)) ∧ w = w' := by
  unfold topN at *
  rcases Nat.eq_zero_or_pos a with rfl | h0
  · rw [Nat.zero_mul]
    go_enter Tryz.func85, Tryz.ntmps85
    go_wp2
    go_ret
    exact ⟨rfl, rfl⟩
  rcases Nat.eq_zero_or_pos b with rfl | h1
  · rw [Nat.mul_zero]
    have hz : ((a : Int) == 0) = false := by rw [beq_eq_false_iff_ne]; omega
    go_enter Tryz.func85, Tryz.ntmps85
    go_wp2
    go_ret
    exact ⟨rfl, rfl⟩
  have hz : ((a : Int) == 0) = false := by rw [beq_eq_false_iff_ne]; omega
  have hz2 : ((b : Int) == 0) = false := by rw [beq_eq_false_iff_ne]; omega
  have hd : ¬ ((1099511627776 : Int) / (b : Int) < (a : Int)) := by rw [div_lt a b h1]; omega
  have HM := Lib.hid (show ((a * b : Nat) : Int) = (a : Int) * (b : Int) by simp)
  have hm1 : (a : Int) * (b : Int) ≤ 1099511627776 := by rw [← HM.out]; omega
  have hm0 : 0 ≤ (a : Int) * (b : Int) := by rw [← HM.out]; omega
  have hw : IntKind.i64.wrap ((a : Int) * (b : Int)) = (a : Int) * (b : Int) := by rw [IntKind.wrap_i64]; omega
  clear hab
  go_enter Tryz.func85, Tryz.ntmps85
  go_wp2
  go_ret
  exact ⟨ret_i HM.out.symm, rfl⟩
set_option maxHeartbeats 1000000 in
theorem mul1_big (a b be g : Nat) (w : World) (ha : a ≤ topN) (hb : b ≤ topN) (hab : topN < a * b) (hbe : w.cell? ⟨be, 0, none⟩ = some (.bool false)) (hfe : w.frozen? ⟨be, 0, none⟩ = false) (hg : w.cell? ⟨g, 0, none⟩ = some (.int .i64 1099511627776)) :
    Calls Tryz.prog 85 #[.int .i64 (a : Int), .int .i64 (b : Int), .pointer (some ⟨be, 0, none⟩), .pointer (some ⟨g, 0, none⟩)] w fun e w' => e = .returned (.int .i64 (a : Int)) ∧ w.setCell ⟨be, 0, none⟩ (.bool true) = w' := by
  unfold topN at *
  have h0 : 0 < a := by
    rcases Nat.eq_zero_or_pos a with rfl | h
    · simp at hab
    · exact h
  have h1 : 0 < b := by
    rcases Nat.eq_zero_or_pos b with rfl | h
    · simp at hab
    · exact h
  have hz : ((a : Int) == 0) = false := by rw [beq_eq_false_iff_ne]; omega
  have hz2 : ((b : Int) == 0) = false := by rw [beq_eq_false_iff_ne]; omega
  have hd : (1099511627776 : Int) / (b : Int) < (a : Int) := by rw [div_lt a b h1]; omega
  clear hab
  go_enter Tryz.func85, Tryz.ntmps85
  go_wp2
  go_ret
  exact ⟨rfl, rfl⟩
set_option maxHeartbeats 2000000 in
theorem foldmul_go (A : Option Addr) (cap be g x y : Nat) (w : World) (hA : NumsAt w A [x, y]) (hx : x ≤ topN) (hy : y ≤ topN) (hbe : w.cell? ⟨be, 0, none⟩ = some (.bool false)) (hfe : w.frozen? ⟨be, 0, none⟩ = false) (hg : w.cell? ⟨g, 0, none⟩ = some (.int .i64 1099511627776)) :
    Calls Tryz.prog 54 #[.int .i64 1, .slice A 2 cap, .func (.func 85) #[] #[.pointer (some ⟨be, 0, none⟩), .pointer (some ⟨g, 0, none⟩)]] w fun e w' =>
      (x * y ≤ topN ∧ e = .returned (.int .i64 ((x * y : Nat) : Int)) ∧ w = w') ∨ (topN < x * y ∧ e = .returned (.int .i64 (x : Int)) ∧ w.setCell ⟨be, 0, none⟩ (.bool true) = w') := by
  obtain ⟨b, o, rfl, c0⟩ := hA 0 (by simp)
  obtain ⟨_, _, e0, c1⟩ := hA 1 (by simp)
  cases e0
  have c0 : w.cell? ⟨b, o, none⟩ = some (.int .i64 (x : Int)) := c0
  have c1 : w.cell? ⟨b, o + 1, none⟩ = some (.int .i64 (y : Int)) := c1
  have H1 := Lib.hid (mul1_ok 1 x be g w (by decide) hx (by omega) hbe hg)
  rw [Nat.one_mul] at H1
  have hx0 : ¬ ((x : Int) < 0) := by omega
  have hy0 : ¬ ((y : Int) < 0) := by omega
  rcases Nat.lt_or_ge topN (x * y) with h | h
  · have H2 := Lib.hid (mul1_big x y be g w hx hy h hbe hfe hg)
    have HH := Lib.hid h
    clear hA h hbe hfe hg
    go_enter Tryz.func54, Tryz.ntmps54
    go_wp2
    refine wp_loop_rounds 3 ?_
    rw [rounds_succ]
    go_wp2_with fail
    refine H1.out.mono ?_
    rintro e w' ⟨rfl, rfl⟩
    dsimp only
    go_wp2
    rw [rounds_succ]
    go_wp2_with fail
    refine H2.out.mono ?_
    rintro e w' ⟨rfl, rfl⟩
    dsimp only
    go_wp2
    rw [rounds_succ]
    go_wp2
    go_ret
    exact .inr ⟨HH.out, rfl, rfl⟩
  · have H2 := Lib.hid (mul1_ok x y be g w hx hy h hbe hg)
    have HH := Lib.hid h
    clear hA h hbe hfe hg
    go_enter Tryz.func54, Tryz.ntmps54
    go_wp2
    refine wp_loop_rounds 3 ?_
    rw [rounds_succ]
    go_wp2_with fail
    refine H1.out.mono ?_
    rintro e w' ⟨rfl, rfl⟩
    dsimp only
    go_wp2
    rw [rounds_succ]
    go_wp2_with fail
    refine H2.out.mono ?_
    rintro e w' ⟨rfl, rfl⟩
    dsimp only
    go_wp2
    rw [rounds_succ]
    go_wp2
    go_ret
    exact .inl ⟨HH.out, rfl, rfl⟩

set_option maxHeartbeats 1000000 in
/-- num.Mul of two at the top. -/
theorem nmul_go (A : Option Addr) (cap x y : Nat) (w : World) (hA : NumsAt w A [x, y]) (hx : x ≤ topN) (hy : y ≤ topN) :
    Calls Tryz.prog 74 #[.int .i64 1099511627776, .slice A 2 cap] w fun e w' => e = .returned (.int .i64 ((min topN (x * y) : Nat) : Int)) ∧ Below w.heap.size w w' := by
  have hb2 : Below w.heap.size w ((w.alloc (.cells #[.int .i64 1099511627776] 3)).alloc (.cells #[.bool false] 4)) := ((Below.refl _ _).alloc (Nat.le_refl _) _).alloc (by simp) _
  have hg2 : Blk ((w.alloc (.cells #[.int .i64 1099511627776] 3)).alloc (.cells #[.bool false] 4)) w.heap.size 3 #[.int .i64 1099511627776] := (Blk.new _ _ _).alloc _
  have he2 : Blk ((w.alloc (.cells #[.int .i64 1099511627776] 3)).alloc (.cells #[.bool false] 4)) (w.heap.size + 1) 4 #[.bool false] := Blk.new_at (by simp)
  have HC := Lib.hid (foldmul_go A cap (w.heap.size + 1) w.heap.size x y _ (hA.below hb2) hx hy (he2.cell 0) (he2.frozen 0) (hg2.cell 0))
  have HX := Lib.hid (show _ ∧ _ ∧ _ from ⟨hb2, hg2, he2⟩)
  have Hxy := Lib.hid (show x ≤ topN from hx)
  clear hA hx hy hb2 hg2 he2
  go_enter Tryz.func74, Tryz.ntmps74
  go_wp2_with fail
  refine HC.out.mono ?_
  rintro e w' (⟨h, rfl, rfl⟩ | ⟨h, rfl, rfl⟩)
  · have hxy := h
    obtain ⟨z, hzd⟩ : ∃ z, x * y = z := ⟨_, rfl⟩
    have HV := Lib.hid (show min topN (x * y) = z by omega)
    rw [hzd] at hxy ⊢
    unfold topN at hxy
    clear h hzd
    dsimp only
    have hg := HX.out.2.1.cell 0
    have he := HX.out.2.2.cell 0
    rcases Nat.eq_zero_or_pos z with rfl | hz
    · go_wp2
      go_ret
      exact ⟨ret_i (by rw [HV.out]; rfl), HX.out.1⟩
    · have hz1 : ((z : Int) != 0) = true := by rw [bne_iff_ne]; omega
      go_wp2
      go_ret
      exact ⟨ret_i (by rw [HV.out]), HX.out.1⟩
  · have HV := Lib.hid (show min topN (x * y) = topN by omega)
    have hx0 : 0 < x := by
      rcases Nat.eq_zero_or_pos x with rfl | h0
      · rw [Nat.zero_mul] at h; exact absurd h (by decide)
      · exact h0
    have hz1 : ((x : Int) != 0) = true := by rw [bne_iff_ne]; omega
    clear h
    have hg := (HX.out.2.1.far (p := ⟨w.heap.size + 1, 0, none⟩) (by simp) (.bool true)).cell 0
    have he := (HX.out.2.2.set_ 0 (.bool true)).cell 0
    dsimp only
    go_wp2
    go_ret
    exact ⟨ret_i (by rw [HV.out]; rfl), ((Below.refl _ _).alloc (Nat.le_refl _) _).alloc (by simp) _⟩
theorem toNat_max (n : Nat) : ((n : Int)).toNat = n := Int.toNat_natCast n
set_option maxHeartbeats 2000000 in
/-- The reference's Mul of two at the top. -/
theorem rmul_go (A : Option Addr) (cap x y : Nat) (w : World) (hA : NumsAt w A [x, y]) (hx : x ≤ topN) (hy : y ≤ topN) :
    Calls Tryz.prog 26 #[.int .i64 1099511627776, .slice A 2 cap] w fun e w' => e = .returned (.int .i64 ((min topN (x * y) : Nat) : Int)) ∧ w = w' := by
  obtain ⟨b, o, rfl, c0⟩ := hA 0 (by simp)
  obtain ⟨_, _, e0, c1⟩ := hA 1 (by simp)
  cases e0
  have c0 : w.cell? ⟨b, o, none⟩ = some (.int .i64 (x : Int)) := c0
  have c1 : w.cell? ⟨b, o + 1, none⟩ = some (.int .i64 (y : Int)) := c1
  unfold topN at hx hy
  clear hA
  rcases Nat.eq_zero_or_pos x with rfl | hx0
  · rw [Nat.zero_mul]
    go_enter Tryz.func26, Tryz.ntmps26
    go_wp2
    refine wp_loop_rounds 1 ?_
    rw [rounds_succ]
    go_wp2
    go_ret
    exact ⟨rfl, rfl⟩
  have hx1 : ¬ ((x : Int) ≤ 0) := by omega
  rcases Nat.eq_zero_or_pos y with rfl | hy0
  · rw [Nat.mul_zero]
    go_enter Tryz.func26, Tryz.ntmps26
    go_wp2
    refine wp_loop_rounds 2 ?_
    rw [rounds_succ]
    go_wp2
    rw [rounds_succ]
    go_wp2
    go_ret
    exact ⟨rfl, rfl⟩
  have hy1 : ¬ ((y : Int) ≤ 0) := by omega
  have hd1 : ¬ ((1099511627776 : Int) / (x : Int) < 1) := by
    have := div_lt 1 x hx0
    rw [Nat.one_mul] at this
    intro h
    have := this.1 (by simpa using h)
    omega
  rcases Nat.lt_or_ge topN (x * y) with h | h
  · have HV := Lib.hid (show min topN (x * y) = topN by omega)
    have hd2 : (1099511627776 : Int) / (y : Int) < (x : Int) := (div_lt x y hy0).2 h
    clear h
    go_enter Tryz.func26, Tryz.ntmps26
    go_wp2
    refine wp_loop_rounds 3 ?_
    rw [rounds_succ]
    go_wp2
    rw [rounds_succ]
    go_wp2
    rw [rounds_succ]
    go_wp2
    refine wp_loop_rounds 2 ?_
    rw [rounds_succ]
    go_wp2
    rw [rounds_succ]
    go_wp2
    go_ret
    exact ⟨ret_i (by rw [HV.out]; rfl), rfl⟩
  · have HV := Lib.hid (show min topN (x * y) = x * y by omega)
    have hd2 : ¬ ((1099511627776 : Int) / (y : Int) < (x : Int)) := fun h2 => by
      have := (div_lt x y hy0).1 h2
      unfold topN at h
      omega
    unfold topN at h
    have HM := Lib.hid (show ((x * y : Nat) : Int) = (x : Int) * (y : Int) by simp)
    have hm1 : (x : Int) * (y : Int) ≤ 1099511627776 := by rw [← HM.out]; omega
    have hm0 : 0 ≤ (x : Int) * (y : Int) := by rw [← HM.out]; omega
    have hw : IntKind.i64.wrap ((x : Int) * (y : Int)) = (x : Int) * (y : Int) := by rw [IntKind.wrap_i64]; omega
    clear h
    go_enter Tryz.func26, Tryz.ntmps26
    go_wp2
    refine wp_loop_rounds 3 ?_
    rw [rounds_succ]
    go_wp2
    rw [rounds_succ]
    go_wp2
    rw [rounds_succ]
    go_wp2
    refine wp_loop_rounds 3 ?_
    rw [rounds_succ]
    go_wp2
    rw [rounds_succ]
    go_wp2
    rw [rounds_succ]
    go_wp2
    go_ret
    exact ⟨ret_i (by rw [HV.out]; exact HM.out.symm), rfl⟩

end Go.Proofs.YtchfipjclbpomaaGreat
namespace Go.Proofs.YtchfipjclbpomaaGreat
open Go.RowKit Go.Shelf
set_option linter.unusedSimpArgs false
set_option linter.unusedVariables false
set_option maxRecDepth 100000
attribute [local go_sem] Oper.semAt_some

/-! Where no depth is asked the figures are all one (turned from the worked proof of a recursive iterator). -/
theorem room_of_none {F : Fence} (hd : F.depth = none) (k : Nat) : F.room k := fun d h => by rw [hd] at h; cases h
theorem roundIn_any {F : Fence} (hd : F.depth = none) {m m' : Nat} {P : Program} {l : Nat} {f : FuncId} {tmps : Array Value} {assign body : Code} {w : World} {R : Ending → World → Prop}
    (h : RoundIn F m P l f tmps assign body w R) : RoundIn F m' P l f tmps assign body w R := ⟨h.1, fun c cs _ => h.2 c cs (room_of_none hd _)⟩
theorem yieldAt_any {F : Fence} (hd : F.depth = none) {m : Nat} (m' : Nat) {P : Program} {l : Nat} {args : Array Value} {W : World} {R : Ending → World → Prop} (h : YieldAt F m P l args W R) : YieldAt F m' P l args W R := by
  obtain ⟨fn, tmps, assign, body, hy, hR⟩ := h
  exact ⟨fn, tmps, assign, body, hy, roundIn_any hd hR⟩

/-- A node that may be, with the slice of its kids. -/
abbrev Item := { q : Nd × Option Addr × Nat // Alone q.1 }
def itemV (q : Item) : Array Value := #[ndV q.1.1 q.1.2.1 q.1.2.2]
/-- All cells but those of one block lie as they lay. -/
def Kc (Bn : Nat) (A B : World) : Prop := A.heap.size ≤ B.heap.size ∧ ∀ (p : Addr) (v : Value), p.block ≠ Bn → A.cell? p = some v → B.cell? p = some v
theorem Kc.refl (Bn : Nat) (A : World) : Kc Bn A A := ⟨Nat.le_refl _, fun _ _ _ h => h⟩
theorem Kc.trans {Bn : Nat} {A B C : World} (h : Kc Bn A B) (k : Kc Bn B C) : Kc Bn A C := ⟨Nat.le_trans h.1 k.1, fun p v hp hc => k.2 p v hp (h.2 p v hp hc)⟩
theorem Kc.below {Bn : Nat} {A B : World} (h : Below A.heap.size A B) : Kc Bn A B := ⟨h.size, fun p v _ hc => (h.cell (World.block_lt_of_cell? A _ hc)).trans hc⟩
theorem Kc.trees {Bn : Nat} {w w' : World} (hk : Kc Bn w w') {P : Nat → Prop} (hP : ∀ b, P b → b ≠ Bn) : ∀ {F : Trees} {A : Option Addr}, TreesAt w P F A → TreesAt w' P F A
  | .nil, _, _ => trivial
  | .cons k s ks lo hi r, A, ⟨b, o, B, cap, hA, hb, hc, ⟨n0, n1, n2, n3, n4, n5, n6, n7⟩, h1, h2⟩ =>
    ⟨b, o, B, cap, hA, hb, hc, ⟨hk.2 _ _ (hP b hb) n0, hk.2 _ _ (hP b hb) n1, hk.2 _ _ (hP b hb) n2, hk.2 _ _ (hP b hb) n3, hk.2 _ _ (hP b hb) n4, hk.2 _ _ (hP b hb) n5, hk.2 _ _ (hP b hb) n6, hk.2 _ _ (hP b hb) n7⟩, Kc.trees hk hP h1, Kc.trees hk hP h2⟩

theorem Sound.get : ∀ {F : Trees} {i : Nat} {z : Nd}, Sound F → F.list[i]? = some z → SoundN z
  | .nil, i, z, _, h => by simp [Trees.list] at h
  | .cons k s ks lo hi r, 0, z, hs, h => by
    simp [Trees.list] at h
    subst h
    exact ⟨hs.1, hs.2.1⟩
  | .cons k s ks lo hi r, i + 1, z, hs, h => Sound.get hs.2.2 (by simpa [Trees.list] using h)
/-- How many nodes the first k trees have. -/
def Trees.first : Trees → Nat → Nat
  | .nil, _ => 0
  | .cons _ _ _ _ _ _, 0 => 0
  | .cons _ _ ks _ _ r, k + 1 => 1 + ks.size + r.first k
theorem Trees.first_zero (F : Trees) : F.first 0 = 0 := by cases F <;> rfl
theorem Trees.first_succ : ∀ {F : Trees} {i : Nat} {z : Nd}, F.list[i]? = some z → F.first (i + 1) = F.first i + z.size
  | .nil, i, z, h => by simp [Trees.list] at h
  | .cons k s ks lo hi r, 0, z, h => by
    simp [Trees.list] at h
    subst h
    simp [Trees.first, Trees.first_zero, Nd.size]
  | .cons k s ks lo hi r, i + 1, z, h => by
    have := Trees.first_succ (F := r) (i := i) (by simpa [Trees.list] using h)
    simp only [Trees.first] at this ⊢
    omega
theorem Trees.first_le : ∀ (F : Trees) (i : Nat), F.first i ≤ F.size
  | .nil, i => Nat.le_refl _
  | .cons k s ks lo hi r, 0 => Nat.zero_le _
  | .cons k s ks lo hi r, i + 1 => by
    have := Trees.first_le r i
    simp [Trees.first, Trees.size]
    omega
theorem Trees.first_all : ∀ (F : Trees), F.first F.len = F.size
  | .nil => rfl
  | .cons k s ks lo hi r => by
    have := Trees.first_all r
    simp [Trees.first, Trees.size, Trees.len]
    omega

section
variable {l Bn N : Nat} {P : Nat → Prop} {J Jx : List Item → World → Prop}
def WalkC (l Bn N : Nat) (P : Nat → Prop) (J Jx : List Item → World → Prop) (n : Nat) : Prop := ∀ (m : Nat) (x : Nd) (B : Option Addr) (cap : Nat) (pre : List Item) (W : World), x.size ≤ n → SoundN x → Bn < W.heap.size → TreesAt W P x.kids B → J pre W → pre.length + x.size ≤ N →
  CallsIn Fence.wide m Tryz.prog 51 #[ndV x B cap, .func (.yield l) #[] #[]] W fun e W' =>
    (e = .returned (.bool true) ∧ (∃ ys : List Item, ys.length = pre.length + x.size ∧ J ys W') ∧ Kc Bn W W') ∨ (e = .returned (.bool false) ∧ ∃ q, Jx q W')
set_option maxHeartbeats 2000000 in
theorem walk_step (hP : ∀ b, P b → b ≠ Bn) (hN : N ≤ 4096) (hJ : ∀ s W o, J s W → J s (World.alloc W o))
    (hY : ∀ m pre (x : Item) W, J pre W → pre.length < N → YieldAt Fence.wide m Tryz.prog l (itemV x) W fun e W' =>
      (e = .returned (.bool true) ∧ J (pre ++ [x]) W' ∧ Kc Bn W W') ∨ (e = .returned (.bool false) ∧ Jx (pre ++ [x]) W'))
    {n : Nat} (ih : WalkC l Bn N P J Jx n) : WalkC l Bn N P J Jx (n + 1) := by
  intro m x B cap pre W hsz hs hBn ht h0 hlen
  have hx1 : 1 ≤ x.size := by unfold Nd.size; omega
  have hxs : x.size = 1 + x.kids.size := rfl
  have hk0 := Trees.len_size x.kids
  have hlk : x.kids.len ≤ 4096 := by omega
  have HA := Lib.hid (show Kc Bn W (W.alloc (.cells (ndA x B cap) 29)) from Kc.below ((Below.refl _ _).alloc (Nat.le_refl _) _))
  have HK := Lib.hid (Blk.new W 29 (ndA x B cap))
  obtain ⟨fn, tmps, assign, body, hy, hR⟩ := hY (m - 1) pre ⟨(x, B, cap), hs.1⟩ (W.alloc (.cells (ndA x B cap) 29)) (hJ _ _ _ h0) (by omega)
  have HR := Lib.hid hR
  have HT := Lib.hid ht
  have hne : W.heap.size ≠ Bn := by omega
  clear hR ht
  unfold itemV at hy
  dsimp only at hy
  unfold ndV ndA at hy
  unfold ndV
  refine callsIn_of_wp Tryz.func51 rfl trivial ?_ rfl
  simp only [Tryz.ntmps51, List.size_toArray, List.length_cons, List.length_nil, Nat.reduceAdd, Nat.reduceSub, Array.replicate_succ, Array.replicate_zero, List.push_toArray, List.append_toArray, List.nil_append, List.cons_append]
  have hdd : ∀ k : Nat, (Fence.wide.depth.isSome = true → 1 ≤ k) := fun k h => by cases h
  gi_wp2
  refine ⟨hdd _, HR.out.mono ?_⟩
  rintro e W3 (⟨rfl, hJ3, hk3⟩ | ⟨rfl, hJx3⟩)
  · have hK3 := HA.out.trans hk3
    have c5 : W3.cell? ⟨W.heap.size, 5, none⟩ = some (.slice B x.kids.len cap) := hk3.2 ⟨W.heap.size, 5, none⟩ _ hne (HK.out.cell 5)
    have HJ3 := Lib.hid hJ3
    have HK3 := Lib.hid hK3
    clear hJ3 hk3 hK3 HR hy HA HK
    gi_wp2
    gi_loopw [14] (fun v wr => ∃ k : Nat, v = .int .i64 (k : Int) ∧ k ≤ x.kids.len ∧ Hid ((∃ ys : List Item, ys.length = pre.length + 1 + x.kids.first k ∧ J ys wr) ∧ Kc Bn W wr)) (fun v _ => x.kids.len - (intOf v).toNat)
    case atStart => exact ⟨0, rfl, Nat.zero_le _, Lib.hid ⟨⟨_, by rw [Trees.first_zero]; simp, HJ3.out⟩, HK3.out⟩⟩
    case round =>
      obtain ⟨k, rfl, hk, HI⟩ := hrel
      clear HJ3 HK3
      by_cases hlt : k < x.kids.len
      · obtain ⟨z, hz⟩ : ∃ z, x.kids.list[k]? = some z := ⟨_, List.getElem?_eq_getElem (by rw [Trees.len_list]; exact hlt)⟩
        have hzs := Trees.size_get x.kids k z hz
        obtain ⟨⟨ys, hys, hJy⟩, hKy⟩ := HI.out
        obtain ⟨b, o, C, capc, rfl, _, _, ⟨c0, c1, c2, c3, c4, c5, c6, c7⟩, hkz⟩ := (Kc.trees hKy hP HT.out).get hz
        have hf1 := Trees.first_succ hz
        have hf2 := Trees.first_le x.kids (k + 1)
        have hdl : (k : Int) < (x.kids.len : Int) := by omega
        have hkA : Kc Bn wr (wr.alloc (.cells (ndA z C capc) 29)) := Kc.below ((Below.refl _ _).alloc (Nat.le_refl _) _)
        have HC := Lib.hid (ih (m - 1) z C capc ys (wr.alloc (.cells (ndA z C capc) 29)) (by omega) (hs.2.get hz) (by have := hKy.1; simp; omega) (Kc.trees hkA hP hkz) (hJ _ _ _ hJy) (by omega))
        have HKy := Lib.hid (hKy.trans hkA)
        have HF := Lib.hid (show ys.length + z.size = pre.length + 1 + x.kids.first (k + 1) by omega)
        clear hz hzs hys hJy hKy hkz hf1 hf2 hkA HI
        unfold ndV at HC
        gi_wp2
        refine ⟨trivial, hdd _, HC.out.mono ?_⟩
        clear HC
        rintro e W4 (⟨rfl, ⟨ys4, hl4, hJ4⟩, hk4⟩ | ⟨rfl, q, hq⟩)
        · have HI4 := Lib.hid (show (∃ ys : List Item, ys.length = pre.length + 1 + x.kids.first (k + 1) ∧ J ys W4) ∧ Kc Bn W W4 from ⟨⟨ys4, hl4.trans HF.out, hJ4⟩, HKy.out.trans hk4⟩)
          clear hl4 hJ4 hk4 HF HKy c0 c1 c2 c3 c4 c5 c6 c7
          dsimp only
          gi_wp2
          go_roundw
          case rel => exact ⟨k + 1, by go_num, by omega, HI4⟩
          case measure => simp [intOf]; omega
        · have HQ := Lib.hid hq
          clear hq HF HKy c0 c1 c2 c3 c4 c5 c6 c7
          dsimp only
          gi_wp2
          go_ret
          exact .inr ⟨rfl, q, HQ.out⟩
      · have hdl : ¬ (k : Int) < (x.kids.len : Int) := by omega
        obtain rfl : k = x.kids.len := by omega
        obtain ⟨⟨ys, hys, hJy⟩, hKy⟩ := HI.out
        have HY := Lib.hid (show (∃ ys : List Item, ys.length = pre.length + (1 + x.kids.size) ∧ J ys wr) ∧ Kc Bn W wr from ⟨⟨ys, by rw [hys, Trees.first_all]; omega, hJy⟩, hKy⟩)
        clear hys hJy hKy HI
        gi_wp2
        go_ret
        exact .inl ⟨rfl, HY.out.1, HY.out.2⟩
  · gi_wp2
    go_ret
    exact .inr ⟨rfl, _, hJx3⟩
theorem walk_all (hP : ∀ b, P b → b ≠ Bn) (hN : N ≤ 4096) (hJ : ∀ s W o, J s W → J s (World.alloc W o))
    (hY : ∀ m pre (x : Item) W, J pre W → pre.length < N → YieldAt Fence.wide m Tryz.prog l (itemV x) W fun e W' =>
      (e = .returned (.bool true) ∧ J (pre ++ [x]) W' ∧ Kc Bn W W') ∨ (e = .returned (.bool false) ∧ Jx (pre ++ [x]) W')) : ∀ n, WalkC l Bn N P J Jx n
  | 0 => fun m x B cap pre W h => by unfold Nd.size at h; omega
  | n + 1 => walk_step hP hN hJ hY (walk_all hP hN hJ hY n)
end

set_option maxHeartbeats 1000000 in
/-- tree.nodes: the tree is boxed; the function value holds the box. -/
theorem nodes_go (x : Nd) (B : Option Addr) (cap : Nat) (w : World) :
    Calls Tryz.prog 32 #[ndV x B cap] w fun e w' => e = .returned (.func (.func 50) #[] #[.pointer (some ⟨w.heap.size, 0, none⟩)]) ∧ w' = w.alloc (.cells (ndA x B cap) 29) := by
  unfold ndV
  go_enter Tryz.func32, Tryz.ntmps32
  go_wp2
  go_light
  go_ret
  exact ⟨rfl, rfl⟩
set_option maxHeartbeats 1000000 in
theorem nodes1_in (n : Nat) (x : Nd) (B : Option Addr) (cap : Nat) (l Bs Bn : Nat) (P : Nat → Prop) (hP : ∀ b, P b → b ≠ Bn) (hsz : x.size ≤ 4096) (hs : SoundN x) (J Jx : List Item → World → Prop) (hJ : ∀ s W o, J s W → J s (World.alloc W o))
    (hY : ∀ pre (x : Item) W, J pre W → pre.length < 4096 → YieldAt Fence.wide (n - 1) Tryz.prog l (itemV x) W fun e W' =>
      (e = .returned (.bool true) ∧ J (pre ++ [x]) W' ∧ Kc Bn W W') ∨ (e = .returned (.bool false) ∧ Jx (pre ++ [x]) W'))
    (W : World) (hb : Blk W Bs 29 (ndA x B cap)) (hBn : Bn < W.heap.size) (ht : TreesAt W P x.kids B) (h0 : J [] W) :
    CallsIn Fence.wide n Tryz.prog 50 #[.func (.yield l) #[] #[], .pointer (some ⟨Bs, 0, none⟩)] W fun e W' => (∃ v, e = .returned v) ∧
      ((∃ ys : List Item, True ∧ J ys W') ∨ (∃ pre : List Item, True ∧ Jx pre W')) := by
  have HC := Lib.hid (walk_all hP (Nat.le_refl _) hJ (fun m pre x W hj hl => yieldAt_any rfl m (hY pre x W hj hl)) x.size (n - 1) x B cap [] W (Nat.le_refl _) hs hBn ht h0 (by simpa using hsz))
  have c0 : W.cell? ⟨Bs, 0, none⟩ = some (.int .i64 x.kind) := hb.cell 0
  have c1 : W.cell? ⟨Bs, 1, none⟩ = some (.int .u64 ((word x.set.testBit 0 : Nat) : Int)) := hb.cell 1
  have c2 : W.cell? ⟨Bs, 2, none⟩ = some (.int .u64 ((word x.set.testBit 1 : Nat) : Int)) := hb.cell 2
  have c3 : W.cell? ⟨Bs, 3, none⟩ = some (.int .u64 ((word x.set.testBit 2 : Nat) : Int)) := hb.cell 3
  have c4 : W.cell? ⟨Bs, 4, none⟩ = some (.int .u64 ((word x.set.testBit 3 : Nat) : Int)) := hb.cell 4
  have c5 : W.cell? ⟨Bs, 5, none⟩ = some (.slice B x.kids.len cap) := hb.cell 5
  have c6 : W.cell? ⟨Bs, 6, none⟩ = some (.int .i64 x.lo) := hb.cell 6
  have c7 : W.cell? ⟨Bs, 7, none⟩ = some (.int .i64 x.hi) := hb.cell 7
  have hdd : ∀ k : Nat, (Fence.wide.depth.isSome = true → 1 ≤ k) := fun k h => by cases h
  clear hb ht h0 hY hs hsz
  refine callsIn_of_wp Tryz.func50 rfl trivial ?_ rfl
  simp only [Tryz.ntmps50, List.size_toArray, List.length_cons, List.length_nil, Nat.reduceAdd, Nat.reduceSub, Array.replicate_succ, Array.replicate_zero, List.push_toArray, List.append_toArray, List.nil_append, List.cons_append]
  gi_wp2
  refine ⟨trivial, hdd _, HC.out.mono ?_⟩
  rintro e W1 (⟨rfl, ⟨ys, _, hJ1⟩, _⟩ | ⟨rfl, q, hq⟩)
  · dsimp only
    gi_wp2
    go_end0
    exact ⟨⟨_, rfl⟩, .inl ⟨ys, trivial, hJ1⟩⟩
  · dsimp only
    gi_wp2
    go_end0
    exact ⟨⟨_, rfl⟩, .inr ⟨q, trivial, hq⟩⟩
/-- What tree.nodes hands back hands out nodes that may be, 4096 at most. -/
theorem nodes_stops (n : Nat) (x : Nd) (B : Option Addr) (cap : Nat) (Bs Bn : Nat) (P : Nat → Prop) (w : World) (hP : ∀ b, P b → b ≠ Bn) (hsz : x.size ≤ 4096) (hs : SoundN x) (hb : Blk w Bs 29 (ndA x B cap)) (hBn : Bn < w.heap.size) (ht : TreesAt w P x.kids B) :
    SeqStopsK Fence.wide n Tryz.prog 50 #[.pointer (some ⟨Bs, 0, none⟩)] itemV (Kc Bn) (fun _ => True) (fun _ => True) 4096 w := fun l J Jx W hW hJ _ hY h0 =>
  nodes1_in n x B cap l Bs Bn P hP hsz hs J Jx (fun s W o h => hJ s W _ none h (World.grownBy_alloc W o none) (fun r e => by cases e)) hY W (hb.below hW hb.lt) (by have := hW.size; omega) (ht.below hW) h0

end Go.Proofs.YtchfipjclbpomaaGreat
namespace Go.Proofs.YtchfipjclbpomaaGreat
open Go.RowKit Go.Shelf
set_option linter.unusedSimpArgs false
set_option linter.unusedVariables false
set_option maxRecDepth 100000
attribute [local go_sem] Oper.semAt_some

/-- A node, with the slice of its kids. -/
abbrev ItemX := Nd × Option Addr × Nat
def itemX (q : ItemX) : Array Value := #[ndV q.1 q.2.1 q.2.2]
/-- All nodes, each ahead of its kids. -/
def Trees.nodes : Trees → List Nd
  | .nil => []
  | .cons k s ks lo hi r => ⟨k, s, ks, lo, hi⟩ :: (ks.nodes ++ r.nodes)
def Nd.nodes (x : Nd) : List Nd := x :: x.kids.nodes
theorem Trees.nodes_len : ∀ F : Trees, F.nodes.length = F.size
  | .nil => rfl
  | .cons k s ks lo hi r => by
    have h1 := Trees.nodes_len ks
    have h2 := Trees.nodes_len r
    simp [Trees.nodes, Trees.size, h1, h2]
    omega
theorem Nd.nodes_len (x : Nd) : x.nodes.length = x.size := by
  unfold Nd.nodes Nd.size
  rw [List.length_cons, Trees.nodes_len]
  omega
/-- The nodes of the first trees. -/
def Trees.upto : Trees → Nat → List Nd
  | .nil, _ => []
  | .cons _ _ _ _ _ _, 0 => []
  | .cons k s ks lo hi r, i + 1 => ⟨k, s, ks, lo, hi⟩ :: (ks.nodes ++ r.upto i)
theorem Trees.upto_zero (F : Trees) : F.upto 0 = [] := by cases F <;> rfl
theorem Trees.upto_succ : ∀ {F : Trees} {i : Nat} {z : Nd}, F.list[i]? = some z → F.upto (i + 1) = F.upto i ++ z.nodes
  | .nil, i, z, h => by simp [Trees.list] at h
  | .cons k s ks lo hi r, 0, z, h => by
    simp [Trees.list] at h
    subst h
    simp [Trees.upto, Trees.upto_zero, Nd.nodes]
  | .cons k s ks lo hi r, i + 1, z, h => by
    have := Trees.upto_succ (F := r) (i := i) (by simpa [Trees.list] using h)
    simp only [Trees.upto] at this ⊢
    rw [this]
    simp
theorem Trees.upto_prefix : ∀ (F : Trees) (i : Nat), F.upto i <+: F.nodes
  | .nil, i => List.prefix_refl _
  | .cons k s ks lo hi r, 0 => List.nil_prefix
  | .cons k s ks lo hi r, i + 1 => by
    have := Trees.upto_prefix r i
    obtain ⟨t, ht⟩ := this
    exact ⟨t, by simp [Trees.upto, Trees.nodes, ← ht]⟩
theorem Trees.upto_all : ∀ (F : Trees), F.upto F.len = F.nodes
  | .nil => rfl
  | .cons k s ks lo hi r => by
    have := Trees.upto_all r
    simp [Trees.upto, Trees.nodes, Trees.len, this]

section
variable {l Bn N : Nat} {P : Nat → Prop} {J Jx : List ItemX → World → Prop}
def WalkX (l Bn N : Nat) (P : Nat → Prop) (J Jx : List ItemX → World → Prop) (n : Nat) : Prop := ∀ (m : Nat) (x : Nd) (B : Option Addr) (cap : Nat) (pre : List ItemX) (W : World), x.size ≤ n → Bn < W.heap.size → TreesAt W P x.kids B → J pre W → pre.length + x.size ≤ N →
  CallsIn Fence.wide m Tryz.prog 51 #[ndV x B cap, .func (.yield l) #[] #[]] W fun e W' =>
    (e = .returned (.bool true) ∧ (∃ ys : List ItemX, ys.map (·.1) = pre.map (·.1) ++ x.nodes ∧ J ys W') ∧ Kc Bn W W') ∨ (e = .returned (.bool false) ∧ ∃ q : List ItemX, q.map (·.1) <+: pre.map (·.1) ++ x.nodes ∧ Jx q W')
set_option maxHeartbeats 2000000 in
theorem walkx_step (hP : ∀ b, P b → b ≠ Bn) (hN : N ≤ 4611686018427387903) (hJ : ∀ s W o, J s W → J s (World.alloc W o))
    (hY : ∀ m pre (x : ItemX) W, J pre W → pre.length < N → YieldAt Fence.wide m Tryz.prog l (itemX x) W fun e W' =>
      (e = .returned (.bool true) ∧ J (pre ++ [x]) W' ∧ Kc Bn W W') ∨ (e = .returned (.bool false) ∧ Jx (pre ++ [x]) W'))
    {n : Nat} (ih : WalkX l Bn N P J Jx n) : WalkX l Bn N P J Jx (n + 1) := by
  intro m x B cap pre W hsz hBn ht h0 hlen
  have hx1 : 1 ≤ x.size := by unfold Nd.size; omega
  have hxs : x.size = 1 + x.kids.size := rfl
  have hk0 := Trees.len_size x.kids
  have hlk : x.kids.len ≤ 4611686018427387903 := by omega
  have HA := Lib.hid (show Kc Bn W (W.alloc (.cells (ndA x B cap) 29)) from Kc.below ((Below.refl _ _).alloc (Nat.le_refl _) _))
  have HK := Lib.hid (Blk.new W 29 (ndA x B cap))
  obtain ⟨fn, tmps, assign, body, hy, hR⟩ := hY (m - 1) pre (x, B, cap) (W.alloc (.cells (ndA x B cap) 29)) (hJ _ _ _ h0) (by omega)
  have HR := Lib.hid hR
  have HT := Lib.hid ht
  have hne : W.heap.size ≠ Bn := by omega
  clear hR ht
  unfold itemX at hy
  dsimp only at hy
  unfold ndV ndA at hy
  unfold ndV
  refine callsIn_of_wp Tryz.func51 rfl trivial ?_ rfl
  simp only [Tryz.ntmps51, List.size_toArray, List.length_cons, List.length_nil, Nat.reduceAdd, Nat.reduceSub, Array.replicate_succ, Array.replicate_zero, List.push_toArray, List.append_toArray, List.nil_append, List.cons_append]
  have hdd : ∀ k : Nat, (Fence.wide.depth.isSome = true → 1 ≤ k) := fun k h => by cases h
  gi_wp2
  refine ⟨hdd _, HR.out.mono ?_⟩
  rintro e W3 (⟨rfl, hJ3, hk3⟩ | ⟨rfl, hJx3⟩)
  · have hK3 := HA.out.trans hk3
    have c5 : W3.cell? ⟨W.heap.size, 5, none⟩ = some (.slice B x.kids.len cap) := hk3.2 ⟨W.heap.size, 5, none⟩ _ hne (HK.out.cell 5)
    have HJ3 := Lib.hid hJ3
    have HK3 := Lib.hid hK3
    clear hJ3 hk3 hK3 HR hy HA HK
    gi_wp2
    gi_loopw [14] (fun v wr => ∃ k : Nat, v = .int .i64 (k : Int) ∧ k ≤ x.kids.len ∧ Hid ((∃ ys : List ItemX, ys.map (·.1) = pre.map (·.1) ++ x :: x.kids.upto k ∧ J ys wr) ∧ Kc Bn W wr)) (fun v _ => x.kids.len - (intOf v).toNat)
    case atStart => exact ⟨0, rfl, Nat.zero_le _, Lib.hid ⟨⟨_, by rw [Trees.upto_zero]; simp, HJ3.out⟩, HK3.out⟩⟩
    case round =>
      obtain ⟨k, rfl, hk, HI⟩ := hrel
      clear HJ3 HK3
      by_cases hlt : k < x.kids.len
      · obtain ⟨z, hz⟩ : ∃ z, x.kids.list[k]? = some z := ⟨_, List.getElem?_eq_getElem (by rw [Trees.len_list]; exact hlt)⟩
        have hzs := Trees.size_get x.kids k z hz
        obtain ⟨⟨ys, hys, hJy⟩, hKy⟩ := HI.out
        obtain ⟨b, o, C, capc, rfl, _, _, ⟨c0, c1, c2, c3, c4, c5, c6, c7⟩, hkz⟩ := (Kc.trees hKy hP HT.out).get hz
        have hf1 := Trees.upto_succ hz
        have hf2 := (Trees.upto_prefix x.kids (k + 1)).length_le
        rw [Trees.nodes_len, hf1, List.length_append, Nd.nodes_len] at hf2
        have hyl := congrArg List.length hys
        simp only [List.length_map, List.length_append, List.length_cons] at hyl
        have hdl : (k : Int) < (x.kids.len : Int) := by omega
        have hkA : Kc Bn wr (wr.alloc (.cells (ndA z C capc) 29)) := Kc.below ((Below.refl _ _).alloc (Nat.le_refl _) _)
        have HC := Lib.hid (ih (m - 1) z C capc ys (wr.alloc (.cells (ndA z C capc) 29)) (by omega) (by have := hKy.1; simp; omega) (Kc.trees hkA hP hkz) (hJ _ _ _ hJy) (by omega))
        have HKy := Lib.hid (hKy.trans hkA)
        have HF := Lib.hid (show ys.map (·.1) ++ z.nodes = pre.map (·.1) ++ x :: x.kids.upto (k + 1) by rw [hys, hf1]; simp)
        clear hyl
        clear hz hzs hys hJy hKy hkz hf1 hf2 hkA HI
        unfold ndV at HC
        gi_wp2
        refine ⟨trivial, hdd _, HC.out.mono ?_⟩
        clear HC
        rintro e W4 (⟨rfl, ⟨ys4, hl4, hJ4⟩, hk4⟩ | ⟨rfl, q, hqp, hq⟩)
        · have HI4 := Lib.hid (show (∃ ys : List ItemX, ys.map (·.1) = pre.map (·.1) ++ x :: x.kids.upto (k + 1) ∧ J ys W4) ∧ Kc Bn W W4 from ⟨⟨ys4, hl4.trans HF.out, hJ4⟩, HKy.out.trans hk4⟩)
          clear hl4 hJ4 hk4 HF HKy c0 c1 c2 c3 c4 c5 c6 c7
          dsimp only
          gi_wp2
          go_roundw
          case rel => exact ⟨k + 1, by go_num, by omega, HI4⟩
          case measure => simp [intOf]; omega
        · have HQ := Lib.hid (show q.map (·.1) <+: pre.map (·.1) ++ x.nodes ∧ Jx q W4 from ⟨by
            rw [HF.out] at hqp
            exact hqp.trans (by unfold Nd.nodes; exact (List.prefix_append_right_inj _).2 (List.cons_prefix_cons.2 ⟨rfl, Trees.upto_prefix _ _⟩)), hq⟩)
          clear hq hqp HF HKy c0 c1 c2 c3 c4 c5 c6 c7
          dsimp only
          gi_wp2
          go_ret
          exact .inr ⟨rfl, q, HQ.out⟩
      · have hdl : ¬ (k : Int) < (x.kids.len : Int) := by omega
        obtain rfl : k = x.kids.len := by omega
        obtain ⟨⟨ys, hys, hJy⟩, hKy⟩ := HI.out
        have HY := Lib.hid (show (∃ ys : List ItemX, ys.map (·.1) = pre.map (·.1) ++ x.nodes ∧ J ys wr) ∧ Kc Bn W wr from ⟨⟨ys, by rw [hys, Trees.upto_all]; rfl, hJy⟩, hKy⟩)
        clear hys hJy hKy HI
        gi_wp2
        go_ret
        exact .inl ⟨rfl, HY.out.1, HY.out.2⟩
  · gi_wp2
    go_ret
    exact .inr ⟨rfl, _, by unfold Nd.nodes; simp, hJx3⟩
theorem walkx_all (hP : ∀ b, P b → b ≠ Bn) (hN : N ≤ 4611686018427387903) (hJ : ∀ s W o, J s W → J s (World.alloc W o))
    (hY : ∀ m pre (x : ItemX) W, J pre W → pre.length < N → YieldAt Fence.wide m Tryz.prog l (itemX x) W fun e W' =>
      (e = .returned (.bool true) ∧ J (pre ++ [x]) W' ∧ Kc Bn W W') ∨ (e = .returned (.bool false) ∧ Jx (pre ++ [x]) W')) : ∀ n, WalkX l Bn N P J Jx n
  | 0 => fun m x B cap pre W h => by unfold Nd.size at h; omega
  | n + 1 => walkx_step hP hN hJ hY (walkx_all hP hN hJ hY n)
end

set_option maxHeartbeats 1000000 in
theorem nodesx1_in (n : Nat) (x : Nd) (B : Option Addr) (cap : Nat) (l Bs Bn : Nat) (P : Nat → Prop) (hP : ∀ b, P b → b ≠ Bn) (hsz : x.size ≤ 4611686018427387903) (J Jx : List ItemX → World → Prop) (hJ : ∀ s W o, J s W → J s (World.alloc W o))
    (hY : ∀ pre (y : ItemX) W, J pre W → pre.length < x.size → YieldAt Fence.wide (n - 1) Tryz.prog l (itemX y) W fun e W' =>
      (e = .returned (.bool true) ∧ J (pre ++ [y]) W' ∧ Kc Bn W W') ∨ (e = .returned (.bool false) ∧ Jx (pre ++ [y]) W'))
    (W : World) (hb : Blk W Bs 29 (ndA x B cap)) (hBn : Bn < W.heap.size) (ht : TreesAt W P x.kids B) (h0 : J [] W) :
    CallsIn Fence.wide n Tryz.prog 50 #[.func (.yield l) #[] #[], .pointer (some ⟨Bs, 0, none⟩)] W fun e W' => (∃ v, e = .returned v) ∧
      ((∃ ys : List ItemX, ys.map (·.1) = x.nodes ∧ J ys W') ∨ (∃ pre : List ItemX, pre.map (·.1) <+: x.nodes ∧ Jx pre W')) := by
  have HC := Lib.hid (walkx_all (N := x.size) hP hsz hJ (fun m pre x W hj hl => yieldAt_any rfl m (hY pre x W hj hl)) x.size (n - 1) x B cap [] W (Nat.le_refl _) hBn ht h0 (by simp))
  have c0 : W.cell? ⟨Bs, 0, none⟩ = some (.int .i64 x.kind) := hb.cell 0
  have c1 : W.cell? ⟨Bs, 1, none⟩ = some (.int .u64 ((word x.set.testBit 0 : Nat) : Int)) := hb.cell 1
  have c2 : W.cell? ⟨Bs, 2, none⟩ = some (.int .u64 ((word x.set.testBit 1 : Nat) : Int)) := hb.cell 2
  have c3 : W.cell? ⟨Bs, 3, none⟩ = some (.int .u64 ((word x.set.testBit 2 : Nat) : Int)) := hb.cell 3
  have c4 : W.cell? ⟨Bs, 4, none⟩ = some (.int .u64 ((word x.set.testBit 3 : Nat) : Int)) := hb.cell 4
  have c5 : W.cell? ⟨Bs, 5, none⟩ = some (.slice B x.kids.len cap) := hb.cell 5
  have c6 : W.cell? ⟨Bs, 6, none⟩ = some (.int .i64 x.lo) := hb.cell 6
  have c7 : W.cell? ⟨Bs, 7, none⟩ = some (.int .i64 x.hi) := hb.cell 7
  have hdd : ∀ k : Nat, (Fence.wide.depth.isSome = true → 1 ≤ k) := fun k h => by cases h
  clear hb ht h0 hY hsz
  refine callsIn_of_wp Tryz.func50 rfl trivial ?_ rfl
  simp only [Tryz.ntmps50, List.size_toArray, List.length_cons, List.length_nil, Nat.reduceAdd, Nat.reduceSub, Array.replicate_succ, Array.replicate_zero, List.push_toArray, List.append_toArray, List.nil_append, List.cons_append]
  gi_wp2
  refine ⟨trivial, hdd _, HC.out.mono ?_⟩
  rintro e W1 (⟨rfl, ⟨ys, hys, hJ1⟩, _⟩ | ⟨rfl, q, hqp, hq⟩)
  · dsimp only
    gi_wp2
    go_end0
    exact ⟨⟨_, rfl⟩, .inl ⟨ys, by simpa using hys, hJ1⟩⟩
  · dsimp only
    gi_wp2
    go_end0
    exact ⟨⟨_, rfl⟩, .inr ⟨q, by simpa using hqp, hq⟩⟩
/-- What tree.nodes hands back hands out all nodes, each ahead of its kids. -/
theorem nodesx_stops (n : Nat) (x : Nd) (B : Option Addr) (cap : Nat) (Bs Bn : Nat) (P : Nat → Prop) (w : World) (hP : ∀ b, P b → b ≠ Bn) (hsz : x.size ≤ 4611686018427387903) (hb : Blk w Bs 29 (ndA x B cap)) (hBn : Bn < w.heap.size) (ht : TreesAt w P x.kids B) :
    SeqStopsK Fence.wide n Tryz.prog 50 #[.pointer (some ⟨Bs, 0, none⟩)] itemX (Kc Bn) (fun ys => ys.map (·.1) = x.nodes) (fun pre => pre.map (·.1) <+: x.nodes) x.size w := fun l J Jx W hW hJ _ hY h0 =>
  nodesx1_in n x B cap l Bs Bn P hP hsz J Jx (fun s W o h => hJ s W _ none h (World.grownBy_alloc W o none) (fun r e => by cases e)) hY W (hb.below hW hb.lt) (by have := hW.size; omega) (ht.below hW) h0

end Go.Proofs.YtchfipjclbpomaaGreat
namespace Go.Proofs.YtchfipjclbpomaaGreat
open Go.RowKit Go.Shelf
set_option linter.unusedSimpArgs false
set_option linter.unusedVariables false
set_option maxRecDepth 100000
attribute [local go_sem] Oper.semAt_some

theorem Kc.put {Bn : Nat} (W : World) (l : Nat) (o o' : Obj) (h : W.heap[l]? = some o) (hc : o.isCells = false) : Kc Bn W (W.putObj l o') :=
  ⟨(grownBy_putObj' W l o').size, fun p v _ hv => cell_kept hv (grownBy_putObj' W l o') (fun r e => by cases e; exact ⟨o, h, hc⟩)⟩
theorem Kc.setCell {Bn : Nat} (W : World) (v : Value) : Kc Bn W (W.setCell ⟨Bn, 0, none⟩ v) :=
  ⟨by simp, fun p u hp hu => (World.cell?_of_block (Below.heap_setCell W ⟨Bn, 0, none⟩ v p.block hp)).trans hu⟩
theorem keepsFrom_below {B : Nat} {W W' : World} (h : Below W.heap.size W W') : KeepsFrom B W W' :=
  ⟨h.size, fun k o _ hk _ => (h.block k (Array.getElem?_eq_some_iff.1 hk).1).trans hk⟩

theorem ret_boolc {fn : Func} {t : Tmp} (h : fn.results = #[.cell t 4]) {tmps : Array Value} {w : World} {g : Nat} {b : Bool}
    (hp : tmps.getD t undef = .pointer (some ⟨g, 0, none⟩)) (hc : w.cell? ⟨g, 0, none⟩ = some (.bool b)) :
    (results fn tmps).run Tryz.prog w = .ok (.bool b) w := by
  have hp' : tmps[t]?.getD undef = .pointer (some ⟨g, 0, none⟩) := by simpa using hp
  simp [results, h, hp', asAddr, go_sem, hc]
set_option maxHeartbeats 4000000 in
theorem tright_in (n : Nat) (hn : 3 ≤ n) (x : Nd) (B : Option Addr) (cap : Nat) (w : World) (hsz : x.size ≤ 4096) (hs : SoundN x) (ht : TreesAt w (fun b => b < w.heap.size) x.kids B) :
    CallsIn Fence.wide n Tryz.prog 17 #[ndV x B cap] w fun e w' => e = .returned (.bool true) ∧ Below w.heap.size w w' := by
  have h1 : 1 ≤ n := by omega
  unfold ndV
  refine callsIn_of_wp_marks Tryz.func17 rfl trivial ?_ rfl
  simp only [Tryz.ntmps17, List.size_toArray, List.length_cons, List.length_nil, Nat.reduceAdd, Nat.reduceSub, Array.replicate_succ, Array.replicate_zero, List.push_toArray, List.append_toArray, List.nil_append, List.cons_append]
  gi_wp2_with (refine ⟨trivial, ?_⟩; gi_at_call 32; refine (callsIn_wide.2 (nodes_go x B cap _)).mono ?_; rintro e w' ⟨rfl, rfl⟩)
  have bR := ((Boxed.new (w.alloc (.cells (ndA x B cap) 29)) 4 (.bool false)).alloc (.cells #[.int .i64 0] 3)).alloc (.cells (ndA x B cap) 29)
  have bN := (Boxed.new ((w.alloc (.cells (ndA x B cap) 29)).alloc (.cells #[.bool false] 4)) 3 (.int .i64 0)).alloc (.cells (ndA x B cap) 29)
  have bS := Blk.new (((w.alloc (.cells (ndA x B cap) 29)).alloc (.cells #[.bool false] 4)).alloc (.cells #[.int .i64 0] 3)) 29 (ndA x B cap)
  simp only [World.size_alloc] at bR bN bS
  have hB0 : Below w.heap.size w ((((w.alloc (.cells (ndA x B cap) 29)).alloc (.cells #[.bool false] 4)).alloc (.cells #[.int .i64 0] 3)).alloc (.cells (ndA x B cap) 29)) := ((((Below.refl _ w).alloc (Nat.le_refl _) _).alloc (by simp) _).alloc (by simp; omega) _).alloc (by simp; omega) _
  have hsz0 : ((((w.alloc (.cells (ndA x B cap) 29)).alloc (.cells #[.bool false] 4)).alloc (.cells #[.int .i64 0] 3)).alloc (.cells (ndA x B cap) 29)).heap.size = w.heap.size + 4 := by simp
  unfold ndA at bR bN hB0 hsz0
  unfold ndA
  obtain ⟨W0, hW0⟩ : ∃ W0, ((((w.alloc (.cells #[.int .i64 x.kind, .int .u64 ((word x.set.testBit 0 : Nat) : Int), .int .u64 ((word x.set.testBit 1 : Nat) : Int), .int .u64 ((word x.set.testBit 2 : Nat) : Int), .int .u64 ((word x.set.testBit 3 : Nat) : Int), .slice B x.kids.len cap, .int .i64 x.lo, .int .i64 x.hi] 29)).alloc (.cells #[.bool false] 4)).alloc (.cells #[.int .i64 0] 3)).alloc (.cells #[.int .i64 x.kind, .int .u64 ((word x.set.testBit 0 : Nat) : Int), .int .u64 ((word x.set.testBit 1 : Nat) : Int), .int .u64 ((word x.set.testBit 2 : Nat) : Int), .int .u64 ((word x.set.testBit 3 : Nat) : Int), .slice B x.kids.len cap, .int .i64 x.lo, .int .i64 x.hi] 29)) = W0 := ⟨_, rfl⟩
  have bS : Blk W0 (w.heap.size + 1 + 1 + 1) 29 (ndA x B cap) := by rw [← hW0]; exact bS
  rw [hW0] at bR bN hB0 hsz0 ⊢
  clear hW0
  refine wpIn_rangeFunc_ownH rfl h1 (gf := 50) (lb := #[.pointer (some ⟨w.heap.size + 1 + 1 + 1, 0, none⟩)]) rfl trivial (enters_of Tryz.func50 (by kernel_rfl) rfl)
    (nodes_stops (n - 1) x B cap (w.heap.size + 1 + 1 + 1) (w.heap.size + 1 + 1) (fun b => b < w.heap.size) W0 (fun b hb => by omega) hsz hs bS (by omega) (ht.below hB0)) (fun h k => h.trans k) (fun W l o o' _ ho hc _ => Kc.put W l o o' ho hc) (Below.refl _ _) (fun _ => rfl)
    (fun pre W => (Boxed W (w.heap.size + 1 + 1) 3 (.int .i64 ((pre.length : Nat) : Int)) ∧ Boxed W (w.heap.size + 1) 4 (.bool false)) ∧ Below w.heap.size w W)
    (fun _ _ _ => False)
    (OwnFrom.and (OwnFrom.and (Own.from (boxed_own _ _ _) _) (Own.from (boxed_own _ _ _) _)) (ownFrom_below (Nat.le_refl _) (by omega)))
    (fun _ _ _ _ _ hs _ _ => hs)
    ⟨⟨bN, bR⟩, hB0⟩
    (fun (q : Item) a' W => ∃ Bx, w.heap.size + 1 + 1 < Bx ∧ Blk W Bx 29 (ndA q.1.1 q.1.2.1 q.1.2.2) ∧ a' = { tmps := #[ndV x B cap, .pointer (some ⟨w.heap.size, 0, none⟩), .pointer (some ⟨w.heap.size + 1, 0, none⟩), .pointer (some ⟨w.heap.size + 1 + 1, 0, none⟩), .pointer (some ⟨Bx, 0, none⟩), ndV x B cap, .func (.func 50) #[] #[.pointer (some ⟨w.heap.size + 1 + 1 + 1, 0, none⟩)], ndV q.1.1 q.1.2.1 q.1.2.2, undef, undef, undef, undef, undef, undef, undef, undef, undef], defers := [] })
    (fun q a' _ X Y row hs hg hr => by
      obtain ⟨Bx, h1, h2, h3⟩ := hs
      exact ⟨Bx, h1, h2.grown hg (fun e => by
        obtain ⟨o, ho, hc⟩ := (hr _ e.symm).2
        rw [show X.heap[Bx]? = _ from h2] at ho
        cases ho
        cases hc), h3⟩)
    ?assign ?body ?done ?stop
  case assign =>
    rintro l pre q W K ⟨⟨bN1, bR1⟩, hB1⟩ hK
    unfold itemV ndV
    gi_wp2
    exact hK _ _ ((KeepsOthers.alloc _ _).from _) (Kc.below ((Below.refl _ W).alloc (Nat.le_refl _) _)) ⟨⟨bN1.alloc _, bR1.alloc _⟩, hB1.alloc hB1.size _⟩ ⟨W.heap.size, bN1.lt, Blk.new W 29 _, rfl⟩
  case body =>
    rintro l pre q a' W hl _ ⟨⟨bN1, bR1⟩, hB1⟩ ⟨Bx, hBx, bX, rfl⟩ hlt
    have cN := bN1.cell
    have fN := bN1.frozen
    have x0 : W.cell? ⟨Bx, 0, none⟩ = some (.int .i64 q.1.1.kind) := bX.cell 0
    have x1 : W.cell? ⟨Bx, 1, none⟩ = some (.int .u64 ((word q.1.1.set.testBit 0 : Nat) : Int)) := bX.cell 1
    have x2 : W.cell? ⟨Bx, 2, none⟩ = some (.int .u64 ((word q.1.1.set.testBit 1 : Nat) : Int)) := bX.cell 2
    have x3 : W.cell? ⟨Bx, 3, none⟩ = some (.int .u64 ((word q.1.1.set.testBit 2 : Nat) : Int)) := bX.cell 3
    have x4 : W.cell? ⟨Bx, 4, none⟩ = some (.int .u64 ((word q.1.1.set.testBit 3 : Nat) : Int)) := bX.cell 4
    have x5 : W.cell? ⟨Bx, 5, none⟩ = some (.slice q.1.2.1 q.1.1.kids.len q.1.2.2) := bX.cell 5
    have x6 : W.cell? ⟨Bx, 6, none⟩ = some (.int .i64 q.1.1.lo) := bX.cell 6
    have x7 : W.cell? ⟨Bx, 7, none⟩ = some (.int .i64 q.1.1.hi) := bX.cell 7
    have hn1 : IntKind.i64.wrap (((pre.length : Nat) : Int) + 1) = (((pre ++ [q]).length : Nat) : Int) := by
      rw [IntKind.wrap_i64, List.length_append, List.length_singleton]; omega
    have hle : (((pre ++ [q]).length : Nat) : Int) ≤ 4096 := by simp; omega
    have hA := Lib.hid (alone_go q.1.1 q.1.2.1 q.1.2.2 (W.setCell ⟨w.heap.size + 1 + 1, 0, none⟩ (.int .i64 (((pre ++ [q]).length : Nat) : Int))) q.2)
    have hb1 : Below w.heap.size w (W.setCell ⟨w.heap.size + 1 + 1, 0, none⟩ (.int .i64 (((pre ++ [q]).length : Nat) : Int))) := hB1.setCell (p := ⟨w.heap.size + 1 + 1, 0, none⟩) (by simp; omega) _
    have hN1 := bN1.set (.int .i64 (((pre ++ [q]).length : Nat) : Int))
    have hR1 := bR1.other (B' := w.heap.size + 1 + 1) (by omega) (.int .i64 (((pre ++ [q]).length : Nat) : Int))
    have hk1 := Kc.setCell (Bn := w.heap.size + 1 + 1) W (.int .i64 (((pre ++ [q]).length : Nat) : Int))
    have hf1 := (KeepsOthers.setCell W ⟨w.heap.size + 1 + 1, 0, none⟩ (.int .i64 (((pre ++ [q]).length : Nat) : Int))).from W0.heap.size
    have hdd : ∀ k : Nat, (Fence.wide.depth.isSome = true → 1 ≤ k) := fun k h => by cases h
    have HX := Lib.hid (show _ ∧ _ ∧ _ ∧ _ ∧ _ from ⟨hb1, hN1, hR1, hk1, hf1⟩)
    clear hb1 hN1 hR1 hk1 hf1 bN1 bR1 hB1 bX bN bR bS hB0 hs ht hsz
    generalize hM : (((pre ++ [q]).length : Nat) : Int) = M at *
    unfold ndV at hA
    unfold ndV
    gi_wp2
    refine ⟨trivial, hdd _, (CallsIn.inRound l (callsIn_wide.2 hA.out)).mono ?_⟩
    rintro e W3 ⟨rfl, hb3⟩
    have HZ := Lib.hid (show KeepsFrom W0.heap.size W W3 ∧ Kc (w.heap.size + 1 + 1) W W3 ∧ (Boxed W3 (w.heap.size + 1 + 1) 3 (.int .i64 M) ∧ Boxed W3 (w.heap.size + 1) 4 (.bool false)) ∧ Below w.heap.size w W3 from by
      obtain ⟨hb1, hN1, hR1, hk1, hf1⟩ := HX.out
      exact ⟨hf1.trans (keepsFrom_below hb3), hk1.trans (Kc.below hb3), ⟨(hb3.block _ hN1.lt).trans hN1, (hb3.block _ hR1.lt).trans hR1⟩, hb1.trans (hb3.mono hb1.size)⟩)
    clear HX hb3 hA
    dsimp only
    gi_wp2
    subst hM
    exact HZ.out
  case done =>
    rintro D ys W hD _ ⟨⟨bN1, bR1⟩, hB1⟩ hK
    have cR := bR1.cell
    have fR := bR1.frozen
    gi_wp2
    have hK2 := (KeepsOthers.setCell W ⟨w.heap.size + 1, 0, none⟩ (.bool true)).same D _ hK rfl
    refine ⟨by simp, .inl ⟨_, _, rfl, run_takeDeferred hK2, ?_⟩⟩
    have hc : ((W.setCell ⟨w.heap.size + 1, 0, none⟩ (.bool true)).putObj D (.deferred none)).cell? ⟨w.heap.size + 1, 0, none⟩ = some (.bool true) := cell_kept (bR1.set _).cell (grownBy_putObj' _ D (.deferred none)) (fun r e => by cases e; exact ⟨_, hK2, rfl⟩)
    exact ⟨_, ret_boolc rfl rfl hc, rfl, (hB1.setCell (p := ⟨w.heap.size + 1, 0, none⟩) (by simp) _).trans (belowK_b (w := w) (Nat.le_refl _) _ D _ _ (by omega) hK2 rfl rfl)⟩
  case stop =>
    rintro D c pre W _ _ h _
    exact h.elim
/-- tree.Right: a tree that may be, of no more than 4096 nodes. -/
theorem tright_go (x : Nd) (B : Option Addr) (cap : Nat) (w : World) (hsz : x.size ≤ 4096) (hs : SoundN x) (ht : TreesAt w (fun b => b < w.heap.size) x.kids B) :
    Calls Tryz.prog 17 #[ndV x B cap] w fun e w' => e = .returned (.bool true) ∧ Below w.heap.size w w' :=
  callsIn_wide.1 (tright_in 3 (Nat.le_refl _) x B cap w hsz hs ht)
end Go.Proofs.YtchfipjclbpomaaGreat
namespace Go.Proofs.YtchfipjclbpomaaGreat
open Go.RowKit Go.Shelf
set_option linter.unusedSimpArgs false
set_option linter.unusedVariables false
set_option maxRecDepth 100000
attribute [local go_sem] Oper.semAt_some

/-- May a node be, without its kids? -/
def aloneN (y : Nd) : Bool := aloneV y.kind (word y.set.testBit 0 : Nat) (word y.set.testBit 1 : Nat) (word y.set.testBit 2 : Nat) (word y.set.testBit 3 : Nat) y.kids.len y.lo y.hi
/-- May a tree be? -/
def rightT (x : Nd) : Bool := decide (x.nodes.length ≤ 4096) && x.nodes.all aloneN
theorem aloneN_go (y : Nd) (B : Option Addr) (cap : Nat) (w : World) :
    Calls Tryz.prog 33 #[ndV y B cap] w fun e w' => e = .returned (.bool (aloneN y)) ∧ Below w.heap.size w w' :=
  alone_any _ _ _ _ _ _ _ B _ cap w
theorem rightT_yes {x : Nd} {ys : List ItemX} (h : ys.map (·.1) = x.nodes) (h1 : ys.length ≤ 4096) (h2 : ∀ q ∈ ys, aloneN q.1 = true) : rightT x = true := by
  unfold rightT
  rw [← h, Bool.and_eq_true, decide_eq_true_eq, List.all_eq_true]
  refine ⟨by simpa using h1, fun y hy => ?_⟩
  obtain ⟨q, hq, rfl⟩ := List.mem_map.1 hy
  exact h2 q hq
theorem rightT_no {x : Nd} {ys : List ItemX} (h : ys.map (·.1) <+: x.nodes) (h1 : 4096 < ys.length ∨ ∃ q ∈ ys, aloneN q.1 = false) : rightT x = false := by
  unfold rightT
  rcases h1 with h1 | ⟨q, hq, hf⟩
  · have := h.length_le
    rw [List.length_map] at this
    rw [Bool.and_eq_false_iff]
    exact .inl (by rw [decide_eq_false_iff_not]; omega)
  · rw [Bool.and_eq_false_iff]
    refine .inr ?_
    cases ha : x.nodes.all aloneN
    · rfl
    · have := List.all_eq_true.1 ha q.1 (h.subset (List.mem_map.2 ⟨q, hq, rfl⟩))
      rw [hf] at this
      cases this

set_option maxHeartbeats 4000000 in
theorem trightx_in (n : Nat) (hn : 3 ≤ n) (x : Nd) (B : Option Addr) (cap : Nat) (w : World) (hsz : x.size ≤ 4611686018427387903) (ht : TreesAt w (fun b => b < w.heap.size) x.kids B) :
    CallsIn Fence.wide n Tryz.prog 17 #[ndV x B cap] w fun e w' => e = .returned (.bool (rightT x)) ∧ Below w.heap.size w w' := by
  have h1 : 1 ≤ n := by omega
  unfold ndV
  refine callsIn_of_wp_marks Tryz.func17 rfl trivial ?_ rfl
  simp only [Tryz.ntmps17, List.size_toArray, List.length_cons, List.length_nil, Nat.reduceAdd, Nat.reduceSub, Array.replicate_succ, Array.replicate_zero, List.push_toArray, List.append_toArray, List.nil_append, List.cons_append]
  gi_wp2_with (refine ⟨trivial, ?_⟩; gi_at_call 32; refine (callsIn_wide.2 (nodes_go x B cap _)).mono ?_; rintro e w' ⟨rfl, rfl⟩)
  have bR := ((Boxed.new (w.alloc (.cells (ndA x B cap) 29)) 4 (.bool false)).alloc (.cells #[.int .i64 0] 3)).alloc (.cells (ndA x B cap) 29)
  have bN := (Boxed.new ((w.alloc (.cells (ndA x B cap) 29)).alloc (.cells #[.bool false] 4)) 3 (.int .i64 0)).alloc (.cells (ndA x B cap) 29)
  have bS := Blk.new (((w.alloc (.cells (ndA x B cap) 29)).alloc (.cells #[.bool false] 4)).alloc (.cells #[.int .i64 0] 3)) 29 (ndA x B cap)
  simp only [World.size_alloc] at bR bN bS
  have hB0 : Below w.heap.size w ((((w.alloc (.cells (ndA x B cap) 29)).alloc (.cells #[.bool false] 4)).alloc (.cells #[.int .i64 0] 3)).alloc (.cells (ndA x B cap) 29)) := ((((Below.refl _ w).alloc (Nat.le_refl _) _).alloc (by simp) _).alloc (by simp; omega) _).alloc (by simp; omega) _
  have hsz0 : ((((w.alloc (.cells (ndA x B cap) 29)).alloc (.cells #[.bool false] 4)).alloc (.cells #[.int .i64 0] 3)).alloc (.cells (ndA x B cap) 29)).heap.size = w.heap.size + 4 := by simp
  unfold ndA at bR bN hB0 hsz0
  unfold ndA
  obtain ⟨W0, hW0⟩ : ∃ W0, ((((w.alloc (.cells #[.int .i64 x.kind, .int .u64 ((word x.set.testBit 0 : Nat) : Int), .int .u64 ((word x.set.testBit 1 : Nat) : Int), .int .u64 ((word x.set.testBit 2 : Nat) : Int), .int .u64 ((word x.set.testBit 3 : Nat) : Int), .slice B x.kids.len cap, .int .i64 x.lo, .int .i64 x.hi] 29)).alloc (.cells #[.bool false] 4)).alloc (.cells #[.int .i64 0] 3)).alloc (.cells #[.int .i64 x.kind, .int .u64 ((word x.set.testBit 0 : Nat) : Int), .int .u64 ((word x.set.testBit 1 : Nat) : Int), .int .u64 ((word x.set.testBit 2 : Nat) : Int), .int .u64 ((word x.set.testBit 3 : Nat) : Int), .slice B x.kids.len cap, .int .i64 x.lo, .int .i64 x.hi] 29)) = W0 := ⟨_, rfl⟩
  have bS : Blk W0 (w.heap.size + 1 + 1 + 1) 29 (ndA x B cap) := by rw [← hW0]; exact bS
  rw [hW0] at bR bN hB0 hsz0 ⊢
  clear hW0
  refine wpIn_rangeFunc_ownH rfl h1 (gf := 50) (lb := #[.pointer (some ⟨w.heap.size + 1 + 1 + 1, 0, none⟩)]) rfl trivial (enters_of Tryz.func50 (by kernel_rfl) rfl)
    (nodesx_stops (n - 1) x B cap (w.heap.size + 1 + 1 + 1) (w.heap.size + 1 + 1) (fun b => b < w.heap.size) W0 (fun b hb => by omega) hsz bS (by omega) (ht.below hB0)) (fun h k => h.trans k) (fun W l o o' _ ho hc _ => Kc.put W l o o' ho hc) (Below.refl _ _) (fun _ => rfl)
    (fun pre W => ((Boxed W (w.heap.size + 1 + 1) 3 (.int .i64 ((pre.length : Nat) : Int)) ∧ Boxed W (w.heap.size + 1) 4 (.bool false)) ∧ (pre.length ≤ 4096 ∧ ∀ q ∈ pre, aloneN q.1 = true)) ∧ Below w.heap.size w W)
    (fun c pre W => c = .ret ∧ ((Boxed W (w.heap.size + 1) 4 (.bool false) ∧ (4096 < pre.length ∨ ∃ q ∈ pre, aloneN q.1 = false)) ∧ Below w.heap.size w W))
    (OwnFrom.and (OwnFrom.and (OwnFrom.and (Own.from (boxed_own _ _ _) _) (Own.from (boxed_own _ _ _) _)) (ownFrom_pure _ _)) (ownFrom_below (Nat.le_refl _) (by omega)))
    (fun c => OwnFrom.and (ownFrom_pure _ (fun _ => c = .ret)) (OwnFrom.and (OwnFrom.and (Own.from (boxed_own _ _ _) _) (ownFrom_pure _ _)) (ownFrom_below (Nat.le_refl _) (by omega))))
    ⟨⟨⟨bN, bR⟩, Nat.zero_le _, fun q hq => by cases hq⟩, hB0⟩
    (fun (q : ItemX) a' W => ∃ Bx, w.heap.size + 1 + 1 < Bx ∧ Blk W Bx 29 (ndA q.1 q.2.1 q.2.2) ∧ a' = { tmps := #[ndV x B cap, .pointer (some ⟨w.heap.size, 0, none⟩), .pointer (some ⟨w.heap.size + 1, 0, none⟩), .pointer (some ⟨w.heap.size + 1 + 1, 0, none⟩), .pointer (some ⟨Bx, 0, none⟩), ndV x B cap, .func (.func 50) #[] #[.pointer (some ⟨w.heap.size + 1 + 1 + 1, 0, none⟩)], ndV q.1 q.2.1 q.2.2, undef, undef, undef, undef, undef, undef, undef, undef, undef], defers := [] })
    (fun q a' _ X Y row hs hg hr => by
      obtain ⟨Bx, h1, h2, h3⟩ := hs
      exact ⟨Bx, h1, h2.grown hg (fun e => by
        obtain ⟨o, ho, hc⟩ := (hr _ e.symm).2
        rw [show X.heap[Bx]? = _ from h2] at ho
        cases ho
        cases hc), h3⟩)
    ?assign ?body ?done ?stop
  case assign =>
    rintro l pre q W K ⟨⟨⟨bN1, bR1⟩, hp1⟩, hB1⟩ hK
    unfold itemX ndV
    gi_wp2
    exact hK _ _ ((KeepsOthers.alloc _ _).from _) (Kc.below ((Below.refl _ W).alloc (Nat.le_refl _) _)) ⟨⟨⟨bN1.alloc _, bR1.alloc _⟩, hp1⟩, hB1.alloc hB1.size _⟩ ⟨W.heap.size, bN1.lt, Blk.new W 29 _, rfl⟩
  case body =>
    rintro l pre q a' W hl _ ⟨⟨⟨bN1, bR1⟩, hpl, hpa⟩, hB1⟩ ⟨Bx, hBx, bX, rfl⟩ hlt
    have cN := bN1.cell
    have fN := bN1.frozen
    have cR := bR1.cell
    have fR := bR1.frozen
    have HPA := Lib.hid hpa
    have x0 : W.cell? ⟨Bx, 0, none⟩ = some (.int .i64 q.1.kind) := bX.cell 0
    have x1 : W.cell? ⟨Bx, 1, none⟩ = some (.int .u64 ((word q.1.set.testBit 0 : Nat) : Int)) := bX.cell 1
    have x2 : W.cell? ⟨Bx, 2, none⟩ = some (.int .u64 ((word q.1.set.testBit 1 : Nat) : Int)) := bX.cell 2
    have x3 : W.cell? ⟨Bx, 3, none⟩ = some (.int .u64 ((word q.1.set.testBit 2 : Nat) : Int)) := bX.cell 3
    have x4 : W.cell? ⟨Bx, 4, none⟩ = some (.int .u64 ((word q.1.set.testBit 3 : Nat) : Int)) := bX.cell 4
    have x5 : W.cell? ⟨Bx, 5, none⟩ = some (.slice q.2.1 q.1.kids.len q.2.2) := bX.cell 5
    have x6 : W.cell? ⟨Bx, 6, none⟩ = some (.int .i64 q.1.lo) := bX.cell 6
    have x7 : W.cell? ⟨Bx, 7, none⟩ = some (.int .i64 q.1.hi) := bX.cell 7
    have hn1 : IntKind.i64.wrap (((pre.length : Nat) : Int) + 1) = (((pre ++ [q]).length : Nat) : Int) := by
      rw [IntKind.wrap_i64, List.length_append, List.length_singleton]; omega
    have hA := Lib.hid (aloneN_go q.1 q.2.1 q.2.2 (W.setCell ⟨w.heap.size + 1 + 1, 0, none⟩ (.int .i64 (((pre ++ [q]).length : Nat) : Int))))
    have hb1 : Below w.heap.size w (W.setCell ⟨w.heap.size + 1 + 1, 0, none⟩ (.int .i64 (((pre ++ [q]).length : Nat) : Int))) := hB1.setCell (p := ⟨w.heap.size + 1 + 1, 0, none⟩) (by simp; omega) _
    have hN1 := bN1.set (.int .i64 (((pre ++ [q]).length : Nat) : Int))
    have hR1 := bR1.other (B' := w.heap.size + 1 + 1) (by omega) (.int .i64 (((pre ++ [q]).length : Nat) : Int))
    have hk1 := Kc.setCell (Bn := w.heap.size + 1 + 1) W (.int .i64 (((pre ++ [q]).length : Nat) : Int))
    have hf1 := (KeepsOthers.setCell W ⟨w.heap.size + 1 + 1, 0, none⟩ (.int .i64 (((pre ++ [q]).length : Nat) : Int))).from W0.heap.size
    have hdd : ∀ k : Nat, (Fence.wide.depth.isSome = true → 1 ≤ k) := fun k h => by cases h
    have HX := Lib.hid (show _ ∧ _ ∧ _ ∧ _ ∧ _ from ⟨hb1, hN1, hR1, hk1, hf1⟩)
    clear hb1 hN1 hR1 hk1 hf1 bN1 bR1 hB1 bX bN bR bS hB0 ht hsz hpa
    have HM := Lib.hid (show (((pre ++ [q]).length : Nat) : Int) = (pre.length : Int) + 1 by simp)
    have hM1 : (((pre ++ [q]).length : Nat) : Int) = (pre.length : Int) + 1 := HM.out
    generalize hM : (((pre ++ [q]).length : Nat) : Int) = M at *
    have HMq := Lib.hid hM
    unfold ndV at hA
    unfold ndV
    rcases Nat.lt_or_ge pre.length 4096 with hc | hc
    · have hle : M ≤ 4096 := by omega
      clear hM hM1
      cases hv : aloneN q.1
      all_goals
        rw [hv] at hA
        have HV := Lib.hid hv
        clear hv
        gi_wp2
        refine ⟨trivial, hdd _, (CallsIn.inRound l (callsIn_wide.2 hA.out)).mono ?_⟩
        rintro e W3 ⟨rfl, hb3⟩
        have HZ := Lib.hid (show KeepsFrom W0.heap.size W W3 ∧ Kc (w.heap.size + 1 + 1) W W3 ∧ (Boxed W3 (w.heap.size + 1 + 1) 3 (.int .i64 M) ∧ Boxed W3 (w.heap.size + 1) 4 (.bool false)) ∧ Below w.heap.size w W3 from by
          obtain ⟨hb1, hN1, hR1, hk1, hf1⟩ := HX.out
          exact ⟨hf1.trans (keepsFrom_below hb3), hk1.trans (Kc.below hb3), ⟨(hb3.block _ hN1.lt).trans hN1, (hb3.block _ hR1.lt).trans hR1⟩, hb1.trans (hb3.mono hb1.size)⟩)
        have cR3 := HZ.out.2.2.1.2.cell
        have fR3 := HZ.out.2.2.1.2.frozen
        clear HX hb3 hA cR fR
        dsimp only
        gi_wp2
      · exact ⟨HZ.out.1.trans ((KeepsOthers.setCell _ _ _).from _), rfl, ⟨HZ.out.2.2.1.2.set _, .inr ⟨q, by simp, HV.out⟩⟩, HZ.out.2.2.2.setCell (p := ⟨w.heap.size + 1, 0, none⟩) (by simp) _⟩
      · refine ⟨HZ.out.1, HZ.out.2.1, ⟨⟨by rw [HMq.out]; exact HZ.out.2.2.1.1, HZ.out.2.2.1.2⟩, by simp; omega, fun r hr => ?_⟩, HZ.out.2.2.2⟩
        rcases List.mem_append.1 hr with hr | hr
        · exact HPA.out r hr
        · rw [List.mem_singleton.1 hr]; exact HV.out
    · have hgt : decide ((4096 : Int) < M) = true := (by rw [decide_eq_true_eq]; omega)
      have hgl : 4096 < (pre ++ [q]).length := by simp; omega
      clear hM hM1 hA
      gi_wp2
      refine ⟨trivial, ?_⟩
      gi_wp2
      obtain ⟨hb1, hN1, hR1, hk1, hf1⟩ := HX.out
      exact ⟨hf1.trans ((KeepsOthers.setCell _ _ _).from _), rfl, ⟨hR1.set _, .inl hgl⟩, hb1.setCell (p := ⟨w.heap.size + 1, 0, none⟩) (by simp) _⟩
  case done =>
    rintro D ys W hD hys ⟨⟨⟨bN1, bR1⟩, hpl, hpa⟩, hB1⟩ hK
    have HRT := Lib.hid (rightT_yes hys hpl hpa)
    have cR := bR1.cell
    have fR := bR1.frozen
    gi_wp2
    have hK2 := (KeepsOthers.setCell W ⟨w.heap.size + 1, 0, none⟩ (.bool true)).same D _ hK rfl
    refine ⟨by simp, .inl ⟨_, _, rfl, run_takeDeferred hK2, ?_⟩⟩
    have hc : ((W.setCell ⟨w.heap.size + 1, 0, none⟩ (.bool true)).putObj D (.deferred none)).cell? ⟨w.heap.size + 1, 0, none⟩ = some (.bool true) := cell_kept (bR1.set _).cell (grownBy_putObj' _ D (.deferred none)) (fun r e => by cases e; exact ⟨_, hK2, rfl⟩)
    exact ⟨_, ret_boolc rfl rfl hc, by rw [HRT.out], (hB1.setCell (p := ⟨w.heap.size + 1, 0, none⟩) (by simp) _).trans (belowK_b (w := w) (Nat.le_refl _) _ D _ _ (by omega) hK2 rfl rfl)⟩
  case stop =>
    rintro D c pre W hD hsp ⟨rfl, ⟨bR1, hbad⟩, hB1⟩ hK
    have HRT := Lib.hid (rightT_no hsp hbad)
    gi_wp2
    refine ⟨by simp, .inl ⟨_, _, rfl, run_takeDeferred hK, ?_⟩⟩
    have hc : (W.putObj D (.deferred none)).cell? ⟨w.heap.size + 1, 0, none⟩ = some (.bool false) := cell_kept bR1.cell (grownBy_putObj' _ D (.deferred none)) (fun r e => by cases e; exact ⟨_, hK, rfl⟩)
    exact ⟨_, ret_boolc rfl rfl hc, by rw [HRT.out], hB1.trans (belowK_b (w := w) (Nat.le_refl _) _ D _ _ (by omega) hK rfl rfl)⟩
/-- tree.Right at any tree. -/
theorem tright_any (x : Nd) (B : Option Addr) (cap : Nat) (w : World) (hsz : x.size ≤ 4611686018427387903) (ht : TreesAt w (fun b => b < w.heap.size) x.kids B) :
    Calls Tryz.prog 17 #[ndV x B cap] w fun e w' => e = .returned (.bool (rightT x)) ∧ Below w.heap.size w w' :=
  callsIn_wide.1 (trightx_in 3 (Nat.le_refl _) x B cap w hsz ht)
end Go.Proofs.YtchfipjclbpomaaGreat
namespace Go.Proofs.YtchfipjclbpomaaGreat
open Go.RowKit
set_option linter.unusedSimpArgs false
set_option linter.unusedVariables false
set_option maxRecDepth 100000

/-- What a node that says so often takes, its kid taking n. -/
def timesW (lo hi : Int) (n : Nat) : Nat :=
  if n = 0 then 0
  else if hi < 0 then min topN (min topN (lo.toNat * n) + n + 1)
  else if lo < hi then min topN (min topN (lo.toNat * n) + min topN ((hi - lo).toNat * n) + 1)
  else min topN (lo.toNat * n)
/-- What a node takes, its kids taking n together. -/
def wgtK (k lo hi : Int) (n : Nat) : Nat := if k = 2 ∨ k = 4 then n else if k = 9 then timesW lo hi n else min topN (n + 1)
/-- What trees take together. -/
def Trees.wsum : Trees → Nat
  | .nil => 0
  | .cons k _ ks lo hi r => wgtK k lo hi (min topN ks.wsum) + r.wsum
def Nd.wgt (x : Nd) : Nat := wgtK x.kind x.lo x.hi (min topN x.kids.wsum)
theorem timesW_le (lo hi : Int) (n : Nat) : timesW lo hi n ≤ topN := by
  unfold timesW
  split
  · exact Nat.zero_le _
  split
  · exact Nat.min_le_left _ _
  split
  · exact Nat.min_le_left _ _
  · exact Nat.min_le_left _ _
theorem wgtK_le {k lo hi : Int} {n : Nat} (h : n ≤ topN) : wgtK k lo hi n ≤ topN := by
  unfold wgtK
  split
  · exact h
  split
  · exact timesW_le _ _ _
  · exact Nat.min_le_left _ _
theorem Nd.wgt_le (x : Nd) : x.wgt ≤ topN := wgtK_le (Nat.min_le_left _ _)
theorem Trees.wsum_list : ∀ F : Trees, F.wsum = (F.list.map Nd.wgt).sum
  | .nil => rfl
  | .cons k s ks lo hi r => by
    rw [Trees.wsum, Trees.list, List.map_cons, List.sum_cons, Trees.wsum_list r]
    rfl
/-- Numbers of times that may be. -/
def numsOk (y : Nd) : Prop := y.kind = 9 → 0 ≤ y.lo ∧ y.lo ≤ 1000 ∧ -1 ≤ y.hi ∧ y.hi ≤ 1000
theorem numsOk_of {y : Nd} (h : aloneN y = true) : numsOk y := by
  intro h9
  unfold aloneN aloneV at h
  rw [if_neg (by omega)] at h
  split at h
  · cases h
  try rw [if_pos h9] at h
  rw [Bool.and_eq_true] at h
  have := h.1
  unfold timesB at this
  simp only [Bool.and_eq_true, Bool.or_eq_true, decide_eq_true_eq] at this
  omega
theorem rightT_nums {x : Nd} (h : rightT x = true) : ∀ y ∈ x.nodes, numsOk y := by
  unfold rightT at h
  rw [Bool.and_eq_true] at h
  exact fun y hy => numsOk_of (List.all_eq_true.1 h.2 y hy)
theorem nodes_kid : ∀ {F : Trees} {i : Nat} {z : Nd}, F.list[i]? = some z → ∀ y ∈ z.nodes, y ∈ F.nodes
  | .nil, i, z, h => by simp [Trees.list] at h
  | .cons k s ks lo hi r, 0, z, h => by
    simp [Trees.list] at h
    subst h
    intro y hy
    unfold Nd.nodes at hy
    rcases List.mem_cons.1 hy with rfl | hy
    · simp [Trees.nodes]
    · simp [Trees.nodes, hy]
  | .cons k s ks lo hi r, i + 1, z, h => by
    intro y hy
    have := nodes_kid (F := r) (i := i) (by simpa [Trees.list] using h) y hy
    simp [Trees.nodes, this]
/-- What the first of some nodes take together. -/
def sumTo (f : Nd → Nat) (l : List Nd) (k : Nat) : Nat := ((l.map f).take k).sum
theorem sumTo_zero (f : Nd → Nat) (l : List Nd) : sumTo f l 0 = 0 := by simp [sumTo]
theorem sumTo_succ {f : Nd → Nat} {l : List Nd} {k : Nat} {z : Nd} (h : l[k]? = some z) : sumTo f l (k + 1) = sumTo f l k + f z := by
  obtain ⟨hk, rfl⟩ := List.getElem?_eq_some_iff.1 h
  unfold sumTo
  rw [take_sum _ k (by simpa using hk)]
  simp [List.getD, hk]
theorem sumTo_all (f : Nd → Nat) (l : List Nd) : sumTo f l l.length = (l.map f).sum := by
  unfold sumTo
  rw [List.take_of_length_le (by simp)]
theorem nums2 {w : World} {g : Nat} {a b : Nat} (h : Blk w g 3 #[.int .i64 (a : Int), .int .i64 (b : Int)]) : NumsAt w (some ⟨g, 0, none⟩) [a, b] := fun i hi => by
  refine ⟨g, 0, rfl, ?_⟩
  match i, hi with
  | 0, _ => exact h.cell 0
  | 1, _ => exact h.cell 1
theorem nums3 {w : World} {g : Nat} {a b c : Nat} (h : Blk w g 3 #[.int .i64 (a : Int), .int .i64 (b : Int), .int .i64 (c : Int)]) : NumsAt w (some ⟨g, 0, none⟩) [a, b, c] := fun i hi => by
  refine ⟨g, 0, rfl, ?_⟩
  match i, hi with
  | 0, _ => exact h.cell 0
  | 1, _ => exact h.cell 1
  | 2, _ => exact h.cell 2
theorem min3 (a b : Nat) : min topN (min topN a + b) = min topN (a + b) := by omega
set_option maxHeartbeats 2000000 in
/-- nfa.sum over trees, each taking what a function says. -/
theorem nsum_go (g : FuncId) (f : Nd → Nat) (F : Trees) (P : Nat → Prop) (B : Option Addr) (cap : Nat) (w : World) (hl : F.len ≤ 140737488355328) (ht : TreesAt w P F B) (hf : ∀ z, f z ≤ topN)
    (hg : ∀ (i : Nat) (z : Nd) (C : Option Addr) (capc : Nat) (w' : World), F.list[i]? = some z → TreesAt w' P z.kids C → Calls Tryz.prog g #[ndV z C capc] w' fun e w'' => e = .returned (.int .i64 ((f z : Nat) : Int)) ∧ Below w'.heap.size w' w'')
    (henter : ∀ args w, (callFunc g args).run Tryz.prog w = .ok (.enter g args) w) :
    Calls Tryz.prog 35 #[.func (.func g) #[] #[], .slice B F.len cap] w fun e w' => e = .returned (.int .i64 ((min topN ((F.list.map f).sum) : Nat) : Int)) ∧ Below w.heap.size w w' := by
  have HT := Lib.hid ht
  have HG := Lib.hid hg
  have HF := Lib.hid hf
  clear ht hg hf
  go_enter Tryz.func35, Tryz.ntmps35
  go_wp2
  go_loopw [5, 10] (fun v i wr => ∃ k : Nat, i = .int .i64 (k : Int) ∧ k ≤ F.len ∧ v = .int .i64 ((min topN (sumTo f F.list k) : Nat) : Int) ∧ Hid (Below w.heap.size w wr)) (fun _ i _ => F.len - (intOf i).toNat)
  case atStart => exact ⟨0, rfl, Nat.zero_le _, by rw [sumTo_zero]; rfl, Lib.hid (Below.refl _ _)⟩
  case round =>
    obtain ⟨k, rfl, hk, rfl, HB⟩ := hrel
    by_cases hlt : k < F.len
    · obtain ⟨z, hz⟩ : ∃ z, F.list[k]? = some z := ⟨_, List.getElem?_eq_getElem (by rw [Trees.len_list]; exact hlt)⟩
      obtain ⟨b, o, C, capc, rfl, _, _, ⟨c0, c1, c2, c3, c4, c5, c6, c7⟩, hkz⟩ := (HT.out.below HB.out).get hz
      have hdl : (k : Int) < (F.len : Int) := by omega
      have hbA : Below wr.heap.size wr (wr.alloc (.cells (ndA z C capc) 29)) := (Below.refl _ _).alloc (Nat.le_refl _) _
      have HI := Lib.hid (HG.out k z C capc (wr.alloc (.cells (ndA z C capc) 29)) hz (hkz.below hbA))
      have HS := Lib.hid (show min topN (sumTo f F.list (k + 1)) = min topN (min topN (sumTo f F.list k) + f z) by rw [sumTo_succ hz, min3])
      have hfz := HF.out z
      have hvle : min topN (sumTo f F.list k) ≤ topN := Nat.min_le_left _ _
      have HBA := Lib.hid (HB.out.trans (hbA.mono HB.out.size))
      clear hz hkz hbA
      generalize min topN (sumTo f F.list k) = v at *
      generalize f z = fz at *
      unfold ndV at HI
      go_wp2_with fail
      refine HI.out.mono ?_
      rintro e w3 ⟨rfl, hb3⟩
      have hb4 : Below w3.heap.size w3 (w3.alloc (.cells #[.int .i64 (v : Int), .int .i64 (fz : Int)] 3)) := (Below.refl _ _).alloc (Nat.le_refl _) _
      have HA := Lib.hid (nadd_go (some ⟨w3.heap.size, 0, none⟩) 2 [v, fz] (w3.alloc (.cells #[.int .i64 (v : Int), .int .i64 (fz : Int)] 3)) (nums2 (Blk.new _ _ _)) (fun x hx => by
        rcases List.mem_cons.1 hx with rfl | hx
        · exact hvle
        · rw [List.mem_singleton.1 hx]; exact hfz) (by simp))
      have HB4 := Lib.hid (HBA.out.trans ((hb3.trans (hb4.mono hb3.size)).mono HBA.out.size))
      clear hb3 hb4 HI c0 c1 c2 c3 c4 c5 c6 c7
      dsimp only
      go_wp2_with fail
      refine HA.out.mono ?_
      rintro e w5 ⟨rfl, hb5⟩
      have HB5 := Lib.hid (HB4.out.trans (hb5.mono HB4.out.size))
      have HS2 := Lib.hid (show min topN [v, fz].sum = min topN (sumTo f F.list (k + 1)) by rw [HS.out]; simp)
      rw [HS2.out]
      clear hb5 HA
      dsimp only
      go_wp2
      go_roundw
      case rel => exact ⟨k + 1, by go_num, by omega, rfl, HB5⟩
      case measure => simp [intOf]; omega
    · obtain rfl : k = F.len := by omega
      have hdl : ¬ ((F.len : Int) < (F.len : Int)) := by omega
      have HV := Lib.hid (show sumTo f F.list F.len = (F.list.map f).sum by rw [← Trees.len_list, sumTo_all])
      go_wp2
      go_light
      go_ret
      exact ⟨ret_i (by rw [HV.out]), HB.out⟩
theorem le3 {a b c : Nat} (ha : a ≤ topN) (hb : b ≤ topN) (hc : c ≤ topN) : ∀ x ∈ [a, b, c], x ≤ topN := by
  intro x hx
  simp at hx
  rcases hx with rfl | rfl | rfl <;> assumption
theorem le2 {a b : Nat} (ha : a ≤ topN) (hb : b ≤ topN) : ∀ x ∈ [a, b], x ≤ topN := by
  intro x hx
  simp at hx
  rcases hx with rfl | rfl <;> assumption
theorem mul2_new (w : World) (g a b : Nat) (hg : g = w.heap.size) (ha : a ≤ topN) (hb : b ≤ topN) :
    Calls Tryz.prog 74 #[.int .i64 1099511627776, .slice (some ⟨g, 0, none⟩) 2 2] (w.alloc (.cells #[.int .i64 (a : Int), .int .i64 (b : Int)] 3)) fun e w' => e = .returned (.int .i64 ((min topN (a * b) : Nat) : Int)) ∧ Below w.heap.size w w' :=
  (nmul_go (some ⟨g, 0, none⟩) 2 a b _ (nums2 (Blk.new_at hg)) ha hb).mono fun e w' ⟨he, hb⟩ => ⟨he, ((Below.refl _ _).alloc (Nat.le_refl _) _).trans (hb.mono (by simp))⟩
theorem add2_new (w : World) (g a b : Nat) (hg : g = w.heap.size) (ha : a ≤ topN) (hb : b ≤ topN) :
    Calls Tryz.prog 34 #[.int .i64 1099511627776, .slice (some ⟨g, 0, none⟩) 2 2] (w.alloc (.cells #[.int .i64 (a : Int), .int .i64 (b : Int)] 3)) fun e w' => e = .returned (.int .i64 ((min topN (a + b) : Nat) : Int)) ∧ Below w.heap.size w w' :=
  (nadd_go (some ⟨g, 0, none⟩) 2 [a, b] _ (nums2 (Blk.new_at hg)) (le2 ha hb) (by simp)).mono fun e w' ⟨he, hb⟩ => ⟨by rw [he]; simp, ((Below.refl _ _).alloc (Nat.le_refl _) _).trans (hb.mono (by simp))⟩
theorem add3_new (w : World) (g a b c : Nat) (hg : g = w.heap.size) (ha : a ≤ topN) (hb : b ≤ topN) (hc : c ≤ topN) :
    Calls Tryz.prog 34 #[.int .i64 1099511627776, .slice (some ⟨g, 0, none⟩) 3 3] (w.alloc (.cells #[.int .i64 (a : Int), .int .i64 (b : Int), .int .i64 (c : Int)] 3)) fun e w' => e = .returned (.int .i64 ((min topN (a + b + c) : Nat) : Int)) ∧ Below w.heap.size w w' :=
  (nadd_go (some ⟨g, 0, none⟩) 3 [a, b, c] _ (nums3 (Blk.new_at hg)) (le3 ha hb hc) (by simp)).mono fun e w' ⟨he, hb⟩ => ⟨by rw [he]; simp [Nat.add_assoc], ((Below.refl _ _).alloc (Nat.le_refl _) _).trans (hb.mono (by simp))⟩
set_option maxHeartbeats 2000000 in
theorem ntimes_go (x : Nd) (B : Option Addr) (cap n : Nat) (w : World) (hn : n ≤ topN) (h0 : 0 ≤ x.lo) (h1 : x.lo ≤ 1000) (h2 : -1 ≤ x.hi) (h3 : x.hi ≤ 1000) :
    Calls Tryz.prog 56 #[ndV x B cap, .int .i64 (n : Int)] w fun e w' => e = .returned (.int .i64 ((timesW x.lo x.hi n : Nat) : Int)) ∧ Below w.heap.size w w' := by
  have hb1 : Below w.heap.size w (w.alloc (.cells (ndA x B cap) 29)) := (Below.refl _ _).alloc (Nat.le_refl _) _
  have hx1 := Blk.new w 29 (ndA x B cap)
  obtain ⟨l, hl⟩ := Int.eq_ofNat_of_zero_le h0
  have hlt : l ≤ topN := by unfold topN; omega
  have h1t : (1 : Nat) ≤ topN := by decide
  have hmt : min topN (l * n) ≤ topN := Nat.min_le_left _ _
  have htl : x.lo.toNat = l := by omega
  rcases Nat.eq_zero_or_pos n with rfl | hpos
  · have HV := Lib.hid (show timesW x.lo x.hi 0 = 0 by unfold timesW; rw [if_pos rfl])
    have HB := Lib.hid hb1
    clear hl htl hx1 hb1
    unfold ndV
    go_enter Tryz.func56, Tryz.ntmps56
    go_wp2
    go_light
    go_ret
    exact ⟨ret_i (by rw [HV.out]; rfl), HB.out⟩
  have hnz : ((n : Int) == 0) = false := by rw [beq_eq_false_iff_ne]; omega
  have HM := Lib.hid (fun (W : World) (g : Nat) (hg : g = W.heap.size) => mul2_new W g l n hg hlt hn)
  have HX := Lib.hid (show _ ∧ _ from ⟨hb1, hx1⟩)
  have y6 : (w.alloc (.cells (ndA x B cap) 29)).cell? ⟨w.heap.size, 6, none⟩ = some (.int .i64 (l : Int)) := by rw [← hl]; exact hx1.cell 6
  rcases Int.lt_or_le x.hi 0 with hh | hh
  · have HV := Lib.hid (show timesW x.lo x.hi n = min topN (min topN (l * n) + n + 1) by unfold timesW; rw [if_neg (by omega), if_pos hh, htl])
    have HA := Lib.hid (fun (W : World) (g : Nat) (hg : g = W.heap.size) => add3_new W g (min topN (l * n)) n 1 hg hmt hn h1t)
    clear hl htl hb1 hx1 h1t
    generalize min topN (l * n) = m at *
    unfold ndV
    unfold ndA at HX y6
    go_enter Tryz.func56, Tryz.ntmps56
    go_wp2_with fail
    refine (HM.out _ _ (by simp)).mono ?_
    rintro e w2 ⟨rfl, hb2⟩
    have hX2 := HX.out.2.below hb2 HX.out.2.lt
    have z7 : w2.cell? ⟨w.heap.size, 7, none⟩ = some (.int .i64 x.hi) := hX2.cell 7
    have HB2 := Lib.hid (HX.out.1.trans (hb2.mono HX.out.1.size))
    clear hb2 hX2 y6 HM
    dsimp only
    go_wp2_with fail
    refine (HA.out _ _ (by simp)).mono ?_
    rintro e w3 ⟨rfl, hb3⟩
    have HB3 := Lib.hid (HB2.out.trans (hb3.mono HB2.out.size))
    clear hb3 HA
    dsimp only
    go_wp2
    go_light
    go_ret
    exact ⟨ret_i (by rw [HV.out]), HB3.out⟩
  rcases Int.lt_or_le x.lo x.hi with hlh | hlh
  · obtain ⟨d, hd⟩ := Int.eq_ofNat_of_zero_le (show 0 ≤ x.hi - x.lo by omega)
    have hdt : d ≤ topN := by unfold topN; omega
    have hdn : (x.hi - x.lo).toNat = d := by omega
    have hmt2 : min topN (d * n) ≤ topN := Nat.min_le_left _ _
    have HV := Lib.hid (show timesW x.lo x.hi n = min topN (min topN (l * n) + min topN (d * n) + 1) by unfold timesW; rw [if_neg (by omega), if_neg (by omega), if_pos hlh, htl, hdn])
    have HM2 := Lib.hid (fun (W : World) (g : Nat) (hg : g = W.heap.size) => mul2_new W g d n hg hdt hn)
    have HA := Lib.hid (fun (W : World) (g : Nat) (hg : g = W.heap.size) => add3_new W g (min topN (l * n)) (min topN (d * n)) 1 hg hmt hmt2 h1t)
    obtain ⟨u, hu⟩ := Int.eq_ofNat_of_zero_le hh
    have hul : l < u := by omega
    have hud : (u : Int) - (l : Int) = (d : Int) := by omega
    have hu1 : u ≤ 1000 := by omega
    have Hu := Lib.hid hu
    have Hl := Lib.hid hl
    have Hud := Lib.hid hud
    clear hl htl hb1 hx1 h1t hd hdn hlh hu hud
    generalize min topN (l * n) = m at *
    generalize min topN (d * n) = m2 at *
    unfold ndV
    unfold ndA at HX y6
    go_enter Tryz.func56, Tryz.ntmps56
    go_wp2_with fail
    refine (HM.out _ _ (by simp)).mono ?_
    rintro e w2 ⟨rfl, hb2⟩
    have hX2 := HX.out.2.below hb2 HX.out.2.lt
    have z6 : w2.cell? ⟨w.heap.size, 6, none⟩ = some (.int .i64 (l : Int)) := by rw [← Hl.out]; exact hX2.cell 6
    have z7 : w2.cell? ⟨w.heap.size, 7, none⟩ = some (.int .i64 (u : Int)) := by rw [← Hu.out]; exact hX2.cell 7
    have HB2 := Lib.hid (HX.out.1.trans (hb2.mono HX.out.1.size))
    have hub : ¬ ((u : Int) < 0) := by omega
    clear hb2 hX2 y6 HM
    dsimp only
    go_wp2_with fail
    rw [Hud.out]
    refine (HM2.out _ _ (by simp)).mono ?_
    rintro e w3 ⟨rfl, hb3⟩
    have HB3 := Lib.hid (HB2.out.trans (hb3.mono HB2.out.size))
    clear hb3 HM2
    dsimp only
    go_wp2_with fail
    refine (HA.out _ _ (by simp)).mono ?_
    rintro e w4 ⟨rfl, hb4⟩
    have HB4 := Lib.hid (HB3.out.trans (hb4.mono HB3.out.size))
    clear hb4 HA
    dsimp only
    go_wp2
    go_light
    go_ret
    exact ⟨ret_i (by rw [HV.out]), HB4.out⟩
  · have HV := Lib.hid (show timesW x.lo x.hi n = min topN (l * n) by unfold timesW; rw [if_neg (by omega), if_neg (by omega), if_neg (by omega), htl])
    have hhl : ¬ (x.lo < x.hi) := by omega
    clear hl htl hb1 hx1 h1t
    generalize min topN (l * n) = m at *
    unfold ndV
    unfold ndA at HX y6
    go_enter Tryz.func56, Tryz.ntmps56
    go_wp2_with fail
    refine (HM.out _ _ (by simp)).mono ?_
    rintro e w2 ⟨rfl, hb2⟩
    have hX2 := HX.out.2.below hb2 HX.out.2.lt
    have z6 : w2.cell? ⟨w.heap.size, 6, none⟩ = some (.int .i64 x.lo) := hX2.cell 6
    have z7 : w2.cell? ⟨w.heap.size, 7, none⟩ = some (.int .i64 x.hi) := hX2.cell 7
    have HB2 := Lib.hid (HX.out.1.trans (hb2.mono HX.out.1.size))
    clear hb2 hX2 y6 HM
    dsimp only
    go_wp2
    go_light
    go_ret
    exact ⟨ret_i (by rw [HV.out]), HB2.out⟩

def NWgtC (n : Nat) : Prop := ∀ (x : Nd) (P : Nat → Prop) (B : Option Addr) (cap : Nat) (w : World), x.size ≤ n → x.size ≤ 140737488355328 → (∀ y ∈ x.nodes, numsOk y) → TreesAt w P x.kids B →
  Calls Tryz.prog 37 #[ndV x B cap] w fun e w' => e = .returned (.int .i64 ((x.wgt : Nat) : Int)) ∧ Below w.heap.size w w'
theorem self_nodes (x : Nd) : x ∈ x.nodes := by simp [Nd.nodes]
theorem kid_nodes {x z : Nd} {i : Nat} (h : x.kids.list[i]? = some z) : ∀ y ∈ z.nodes, y ∈ x.nodes := fun y hy => by
  unfold Nd.nodes
  exact List.mem_cons_of_mem _ (nodes_kid h y hy)
set_option maxHeartbeats 2000000 in
theorem nwgt_step {n : Nat} (ih : NWgtC n) : NWgtC (n + 1) := by
  intro x P B cap w hsz hlen hok ht
  have hb1 : Below w.heap.size w (w.alloc (.cells (ndA x B cap) 29)) := (Below.refl _ _).alloc (Nat.le_refl _) _
  have hlk : x.kids.len ≤ 140737488355328 := by have := Trees.len_size x.kids; unfold Nd.size at hlen; omega
  have hks : x.kids.size + 1 = x.size := by unfold Nd.size; omega
  have HS := Lib.hid (nsum_go 37 Nd.wgt x.kids P B cap _ hlk (ht.below hb1) Nd.wgt_le (fun i z C capc w' hz ht' => by
    have := Trees.size_get x.kids i z hz
    exact ih z P C capc w' (by omega) (by omega) (fun y hy => hok y (kid_nodes hz y hy)) ht') (enters_of Tryz.func37 (by kernel_rfl) rfl))
  rw [← Trees.wsum_list] at HS
  have HX := Lib.hid (show _ ∧ _ from ⟨hb1, Blk.new w 29 (ndA x B cap)⟩)
  have hself := hok x (self_nodes x)
  have hsn : min topN x.kids.wsum ≤ topN := Nat.min_le_left _ _
  clear ht hok hb1
  by_cases h24 : x.kind = 2 ∨ x.kind = 4
  · have HV := Lib.hid (show x.wgt = min topN x.kids.wsum by unfold Nd.wgt wgtK; rw [if_pos h24])
    generalize min topN x.kids.wsum = s at *
    have hk : (x.kind == 2) = true ∨ ((x.kind == 2) = false ∧ (x.kind == 4) = true) := by
      rcases h24 with h | h
      · exact .inl (by rw [beq_iff_eq]; exact h)
      · exact .inr ⟨by rw [beq_eq_false_iff_ne]; omega, by rw [beq_iff_eq]; exact h⟩
    clear h24 hself
    unfold ndV
    unfold ndA at *
    rcases hk with hk | ⟨hk, hk2⟩
    all_goals
      go_enter Tryz.func37, Tryz.ntmps37
      go_wp2_with fail
      refine HS.out.mono ?_
      rintro e w2 ⟨rfl, hb2⟩
      have hX := HX.out.2.below hb2 HX.out.2.lt
      have y0 : w2.cell? ⟨w.heap.size, 0, none⟩ = some (.int .i64 x.kind) := hX.cell 0
      have y1 : w2.cell? ⟨w.heap.size, 1, none⟩ = some (.int .u64 ((word x.set.testBit 0 : Nat) : Int)) := hX.cell 1
      have y2 : w2.cell? ⟨w.heap.size, 2, none⟩ = some (.int .u64 ((word x.set.testBit 1 : Nat) : Int)) := hX.cell 2
      have y3 : w2.cell? ⟨w.heap.size, 3, none⟩ = some (.int .u64 ((word x.set.testBit 2 : Nat) : Int)) := hX.cell 3
      have y4 : w2.cell? ⟨w.heap.size, 4, none⟩ = some (.int .u64 ((word x.set.testBit 3 : Nat) : Int)) := hX.cell 4
      have y5 : w2.cell? ⟨w.heap.size, 5, none⟩ = some (.slice B x.kids.len cap) := hX.cell 5
      have y6 : w2.cell? ⟨w.heap.size, 6, none⟩ = some (.int .i64 x.lo) := hX.cell 6
      have y7 : w2.cell? ⟨w.heap.size, 7, none⟩ = some (.int .i64 x.hi) := hX.cell 7
      have HB2 := Lib.hid (HX.out.1.trans (hb2.mono HX.out.1.size))
      clear hb2 hX HS
      dsimp only
      go_wp2
      go_light
      go_ret
      exact ⟨ret_i (by rw [HV.out]), HB2.out⟩
  have hk2 : (x.kind == 2) = false := by rw [beq_eq_false_iff_ne]; omega
  have hk4 : (x.kind == 4) = false := by rw [beq_eq_false_iff_ne]; omega
  by_cases h9 : x.kind = 9
  · have HV := Lib.hid (show x.wgt = timesW x.lo x.hi (min topN x.kids.wsum) by unfold Nd.wgt wgtK; rw [if_neg h24, if_pos h9])
    obtain ⟨l0, l1, l2, l3⟩ := hself h9
    have HT := Lib.hid (fun (W : World) => ntimes_go x B cap (min topN x.kids.wsum) W hsn l0 l1 l2 l3)
    generalize min topN x.kids.wsum = s at *
    have hk9 : (x.kind == 9) = true := by rw [beq_iff_eq]; exact h9
    clear h24 hself h9
    unfold ndV at *
    unfold ndA at *
    go_enter Tryz.func37, Tryz.ntmps37
    go_wp2_with fail
    refine HS.out.mono ?_
    rintro e w2 ⟨rfl, hb2⟩
    have hX := HX.out.2.below hb2 HX.out.2.lt
    have y0 : w2.cell? ⟨w.heap.size, 0, none⟩ = some (.int .i64 x.kind) := hX.cell 0
    have y1 : w2.cell? ⟨w.heap.size, 1, none⟩ = some (.int .u64 ((word x.set.testBit 0 : Nat) : Int)) := hX.cell 1
    have y2 : w2.cell? ⟨w.heap.size, 2, none⟩ = some (.int .u64 ((word x.set.testBit 1 : Nat) : Int)) := hX.cell 2
    have y3 : w2.cell? ⟨w.heap.size, 3, none⟩ = some (.int .u64 ((word x.set.testBit 2 : Nat) : Int)) := hX.cell 3
    have y4 : w2.cell? ⟨w.heap.size, 4, none⟩ = some (.int .u64 ((word x.set.testBit 3 : Nat) : Int)) := hX.cell 4
    have y5 : w2.cell? ⟨w.heap.size, 5, none⟩ = some (.slice B x.kids.len cap) := hX.cell 5
    have y6 : w2.cell? ⟨w.heap.size, 6, none⟩ = some (.int .i64 x.lo) := hX.cell 6
    have y7 : w2.cell? ⟨w.heap.size, 7, none⟩ = some (.int .i64 x.hi) := hX.cell 7
    have HB2 := Lib.hid (HX.out.1.trans (hb2.mono HX.out.1.size))
    clear hb2 hX HS
    dsimp only
    go_wp2_with fail
    refine (HT.out _).mono ?_
    rintro e w3 ⟨rfl, hb3⟩
    have HB3 := Lib.hid (HB2.out.trans (hb3.mono HB2.out.size))
    clear hb3 HT y0 y1 y2 y3 y4 y5 y6 y7
    dsimp only
    go_wp2
    go_light
    go_ret
    exact ⟨ret_i (by rw [HV.out]), HB3.out⟩
  · have HV := Lib.hid (show x.wgt = min topN (min topN x.kids.wsum + 1) by unfold Nd.wgt wgtK; rw [if_neg h24, if_neg h9])
    have HA := Lib.hid (fun (W : World) (g : Nat) (hg : g = W.heap.size) => add2_new W g (min topN x.kids.wsum) 1 hg hsn (by decide))
    generalize min topN x.kids.wsum = s at *
    have hk9 : (x.kind == 9) = false := by rw [beq_eq_false_iff_ne]; exact h9
    clear h24 hself h9
    unfold ndV at *
    unfold ndA at *
    go_enter Tryz.func37, Tryz.ntmps37
    go_wp2_with fail
    refine HS.out.mono ?_
    rintro e w2 ⟨rfl, hb2⟩
    have hX := HX.out.2.below hb2 HX.out.2.lt
    have y0 : w2.cell? ⟨w.heap.size, 0, none⟩ = some (.int .i64 x.kind) := hX.cell 0
    have y1 : w2.cell? ⟨w.heap.size, 1, none⟩ = some (.int .u64 ((word x.set.testBit 0 : Nat) : Int)) := hX.cell 1
    have y2 : w2.cell? ⟨w.heap.size, 2, none⟩ = some (.int .u64 ((word x.set.testBit 1 : Nat) : Int)) := hX.cell 2
    have y3 : w2.cell? ⟨w.heap.size, 3, none⟩ = some (.int .u64 ((word x.set.testBit 2 : Nat) : Int)) := hX.cell 3
    have y4 : w2.cell? ⟨w.heap.size, 4, none⟩ = some (.int .u64 ((word x.set.testBit 3 : Nat) : Int)) := hX.cell 4
    have y5 : w2.cell? ⟨w.heap.size, 5, none⟩ = some (.slice B x.kids.len cap) := hX.cell 5
    have y6 : w2.cell? ⟨w.heap.size, 6, none⟩ = some (.int .i64 x.lo) := hX.cell 6
    have y7 : w2.cell? ⟨w.heap.size, 7, none⟩ = some (.int .i64 x.hi) := hX.cell 7
    have HB2 := Lib.hid (HX.out.1.trans (hb2.mono HX.out.1.size))
    clear hb2 hX HS
    dsimp only
    go_wp2_with fail
    refine (HA.out _ _ (by simp)).mono ?_
    rintro e w3 ⟨rfl, hb3⟩
    have HB3 := Lib.hid (HB2.out.trans (hb3.mono HB2.out.size))
    clear hb3 HA y0 y1 y2 y3 y4 y5 y6 y7
    dsimp only
    go_wp2
    go_light
    go_ret
    exact ⟨ret_i (by rw [HV.out]), HB3.out⟩
theorem nwgt_go (x : Nd) (P : Nat → Prop) (B : Option Addr) (cap : Nat) (w : World) (hlen : x.size ≤ 140737488355328) (hok : ∀ y ∈ x.nodes, numsOk y) (ht : TreesAt w P x.kids B) :
    Calls Tryz.prog 37 #[ndV x B cap] w fun e w' => e = .returned (.int .i64 ((x.wgt : Nat) : Int)) ∧ Below w.heap.size w w' := by
  have h : ∀ n, NWgtC n := by
    intro n
    induction n with
    | zero => exact fun x _ _ _ _ h => by unfold Nd.size at h; omega
    | succ n ih => exact nwgt_step ih
  exact h x.size x P B cap w (Nat.le_refl _) hlen hok ht

end Go.Proofs.YtchfipjclbpomaaGreat
