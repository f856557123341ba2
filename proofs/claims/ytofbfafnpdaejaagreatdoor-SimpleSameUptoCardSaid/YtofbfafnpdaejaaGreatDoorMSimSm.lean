/- Texts of the claim. -/
import Derived.Test.YtofbfafnpdaejaaGreatDoorMSimLo
import Derived.Test.YtofbfafnpdaejaaGreatDoorMSimW
import Derived.Test.YtofbfafnpdaejaaGreatDoorMZ06
import Derived.Test.YtofbfafnpdaejaaGreatDoorMTSize
import Derived.Test.YtofbfafnpdaejaaGreatDoorMZ03
set_option linter.all false
set_option maxRecDepth 100000
set_option maxHeartbeats 8000000
namespace Go.Proofs.YtofbfafnpdaejaaGreatDoor
open Go.RowKit
theorem simpleSame_go (x : Nd) (B : Option Addr) (cap : Nat) (V : Option Addr) (cv : Nat) (bs : List Nat) (w : World) (hsx : x.size ≤ 1048576) (hf : FitT x) (hlx : x.kids.len ≤ cap) (htx : TreesAt w (fun c => c < w.heap.size) x.kids B) (hV : BytesAt w w.heap.size V bs) (hcv : bs.length ≤ cv) (hT : TabAt 0 Lib.deBruijn64tab w) (hw0 : 0 < w.heap.size) :
  Calls Tryz.prog 10 #[ndV x B cap, .slice V bs.length cv] w fun e w' => e = .returned (.bool true) ∧ Below w.heap.size w w' := by
 have hb0 : Below w.heap.size w (w.alloc (.cells (ndA x B cap) 28)) := (Below.refl _ _).alloc (Nat.le_refl _) _
 have hnx : NodeIn (w.alloc (.cells (ndA x B cap) 28)) w.heap.size x B cap := ⟨Blk.new w _ _, (htx.below hb0).weak (fun c h _ => Nat.lt_of_lt_of_le h hb0.size), hlx⟩
 have hw : WordIn w (w.alloc (.cells (ndA x B cap) 28)) V cv bs := ⟨hb0, (hV.below hb0).more hb0.size, hcv, TabAt.below hb0 hw0 hT, Nat.lt_of_lt_of_le hw0 hb0.size⟩
 have HX := Lib.hid hnx
 have HW := Lib.hid hw
 have HS := Lib.hid hsx
 have HF := Lib.hid hf
 clear hnx hw hb0 hsx hlx htx hV hT hw0 hf
 unfold ndV
 unfold ndA at HX HW
 go_enter Tryz.func10, Tryz.ntmps10
 go_upto_region 1 with fail
 generalize (w.alloc (.cells #[.int .i64 x.kind, .int .u64 (word x.set.testBit 0), .int .u64 (word x.set.testBit 1), .int .u64 (word x.set.testBit 2), .int .u64 (word x.set.testBit 3), .slice B x.kids.len cap, .int .i64 x.lo, .int .i64 x.hi] 28)) = w1 at *
 generalize hgx : w.heap.size = gx at HX ⊢
 clear hgx
 have HC := Lib.hid (sOf_go x B cap w1 (by have := HS.out; omega) HF.out HX.out.cap HX.out.tree)
 unfold ndV at HC
 obtain ⟨p0, p1, p2, p3, p4, p5, p6, p7, pl⟩ := (HX.out.box).c8n
 go_wp2_with fail
 refine HC.out.mono ?_
 rintro e w2 ⟨hb2, ⟨hr, rfl⟩ | ⟨hr, By, cy, rfl, hcy, hty⟩⟩
 ·have hby : Below w2.heap.size w2 (w2.alloc (.cells #[.int .i64 0, .int .u64 0, .int .u64 0, .int .u64 0, .int .u64 0, .slice none 0 0, .int .i64 0, .int .i64 0] 28)) := (Below.refl _ _).alloc (Nat.le_refl _) _
  have hb3 := hb2.trans (hby.mono hb2.size)
  have HNx := Lib.hid (HX.out.next hb3)
  have HNw := Lib.hid (HW.out.next hb3)
  have HRx := tright_any x B cap _ (by have := HS.out; omega) HNx.out.tree
  rw [hr] at HRx
  have HRx := Lib.hid HRx
  clear hb2 hby hb3 HC HX HW p0 p1 p2 p3 p4 p5 p6 p7 pl hr
  unfold ndV at HRx
  dsimp only
  go_upto_region 2 with fail
  generalize (w2.alloc (.cells #[.int .i64 0, .int .u64 0, .int .u64 0, .int .u64 0, .int .u64 0, .slice none 0 0, .int .i64 0, .int .i64 0] 28)) = w3 at *
  obtain ⟨p0, p1, p2, p3, p4, p5, p6, p7, pl⟩ := (HNx.out.box).c8n
  go_wp2_with fail
  refine HRx.out.mono ?_
  rintro e w6 ⟨rfl, hb6⟩
  have HB6 := Lib.hid (HNw.out.next hb6).below
  have HK := Lib.hid (knows12_go w6 (HNw.out.next hb6).tab (HNw.out.next hb6).pos)
  clear hb6 HRx HNx HNw p0 p1 p2 p3 p4 p5 p6 p7 pl
  dsimp only
  go_wp2_with fail
  refine HK.out.mono ?_
  rintro e w7 ⟨rfl, hb7⟩
  have HB7 := Lib.hid (HB6.out.trans (hb7.mono HB6.out.size))
  clear hb7
  dsimp only
  go_wp2
  go_light
  go_ret
  exact ⟨rfl, HB7.out⟩
 have hok := right_oks hr HF.out
 have HSG := Lib.hid (sim_sg hok).1
 have HSZ := Lib.hid (sim_size hok)
 have HSY := Lib.hid (sim_says hok)
 have HRX := Lib.hid hr
 have HFW := Lib.hid (right_few hr)
 have hby : Below w2.heap.size w2 (w2.alloc (.cells (ndA x.sim By cy) 28)) := (Below.refl _ _).alloc (Nat.le_refl _) _
 have hb3 := hb2.trans (hby.mono hb2.size)
 have HNx := Lib.hid (HX.out.next hb3)
 have HNw := Lib.hid (HW.out.next hb3)
 have HNy := Lib.hid (show NodeIn (w2.alloc (.cells (ndA x.sim By cy) 28)) w2.heap.size x.sim By cy from ⟨Blk.new w2 _ _, (hty.below hby).weak (fun c h _ => Nat.lt_of_lt_of_le h hby.size), hcy⟩)
 clear hb2 hby hb3 hty hcy HC HX HW p0 p1 p2 p3 p4 p5 p6 p7 pl hok hr
 generalize x.sim = y at *
 unfold ndA at HNx HNw HNy
 unfold ndV
 dsimp only
 go_upto_region 2 with fail
 generalize (w2.alloc (.cells #[.int .i64 y.kind, .int .u64 (word y.set.testBit 0), .int .u64 (word y.set.testBit 1), .int .u64 (word y.set.testBit 2), .int .u64 (word y.set.testBit 3), .slice By y.kids.len cy, .int .i64 y.lo, .int .i64 y.hi] 28)) = w3 at *
 generalize w2.heap.size = gy at *
 by_cases hl : 60 < bs.length
 ·have hd : (60 : Int) < (bs.length : Int) := by omega
  have HRx := tright_any x B cap w3 (by have := HS.out; omega) HNx.out.tree
  rw [HRX.out] at HRx
  have HRx := Lib.hid HRx
  unfold ndV at HRx
  obtain ⟨p0, p1, p2, p3, p4, p5, p6, p7, pl⟩ := (HNx.out.box).c8n
  clear HNx HNy
  go_wp2_with fail
  refine HRx.out.mono ?_
  rintro e w6 ⟨rfl, hb6⟩
  have HB6 := Lib.hid (HNw.out.next hb6).below
  have HK := Lib.hid (knows12_go w6 (HNw.out.next hb6).tab (HNw.out.next hb6).pos)
  clear hb6 HRx HNw p0 p1 p2 p3 p4 p5 p6 p7 pl
  dsimp only
  go_wp2_with fail
  refine HK.out.mono ?_
  rintro e w7 ⟨rfl, hb7⟩
  have HB7 := Lib.hid (HB6.out.trans (hb7.mono HB6.out.size))
  clear hb7
  dsimp only
  go_wp2
  go_light
  go_ret
  exact ⟨rfl, HB7.out⟩
 have hd : ¬ (60 : Int) < (bs.length : Int) := by omega
 have hry : rightT y = true := right_of_sg HSG.out (by have := HSZ.out; have := HFW.out; omega)
 have HRY := Lib.hid hry
 have HFE := Lib.hid (show fullB y bs = fullB x bs by
  rw [Bool.eq_iff_iff, full_says hry (by omega), full_says HRX.out (by omega), HSY.out])
 have HSE := Lib.hid (show y.sim = y from sim_self HSG.out)
 have HFY := Lib.hid (show FitT y from fun z hz => (HSG.out z hz).1.1)
 have HC2 := Lib.hid (sOf_go y By cy w3 (by have := HSZ.out; have := HS.out; omega) HFY.out HNy.out.cap HNy.out.tree)
 unfold ndV at HC2
 clear hry HSY HRX HF
 obtain ⟨q0, q1, q2, q3, q4, q5, q6, q7, ql⟩ := (HNy.out.box).c8n
 go_wp2_with fail
 refine HC2.out.mono ?_
 rintro e w4 ⟨hb4, ⟨hr2, rfl⟩ | ⟨hr2, Bz, cz, rfl, hcz, htz⟩⟩
 ·rw [HRY.out] at hr2
  cases hr2
 rw [HSE.out] at hcz htz ⊢
 have hbz : Below w4.heap.size w4 (w4.alloc (.cells (ndA y Bz cz) 28)) := (Below.refl _ _).alloc (Nat.le_refl _) _
 have hb5 := hb4.trans (hbz.mono hb4.size)
 have HMx := Lib.hid (HNx.out.next hb5)
 have HMw := Lib.hid (HNw.out.next hb5)
 have HMy := Lib.hid (HNy.out.next hb5)
 have HMz := Lib.hid (show NodeIn (w4.alloc (.cells (ndA y Bz cz) 28)) w4.heap.size y Bz cz from ⟨Blk.new w4 _ _, (htz.below hbz).weak (fun c h _ => Nat.lt_of_lt_of_le h hbz.size), hcz⟩)
 clear hb4 hbz hb5 hcz htz hr2 HC2 HNx HNw HNy q0 q1 q2 q3 q4 q5 q6 q7 ql HSG HSE
 unfold ndA at HMx HMw HMy HMz
 unfold ndV
 dsimp only
 go_upto_region 5 with fail
 generalize (w4.alloc (.cells #[.int .i64 y.kind, .int .u64 (word y.set.testBit 0), .int .u64 (word y.set.testBit 1), .int .u64 (word y.set.testBit 2), .int .u64 (word y.set.testBit 3), .slice Bz y.kids.len cz, .int .i64 y.lo, .int .i64 y.hi] 28)) = w5 at *
 generalize w4.heap.size = gz at *
 have HTS := Lib.hid (fun (W' : World) (h : Below w5.heap.size w5 W') => by
  have := tsamed_go y y _ _ By Bz cy cz W' (by have := HSZ.out; have := HS.out; omega) (by have := HSZ.out; have := HS.out; omega) HFY.out HFY.out (HMy.out.next h).tree (HMz.out.next h).tree
  rw [sameN_self] at this
  exact this)
 have HRy := Lib.hid (fun (W' : World) (h : Below w5.heap.size w5 W') => by
  have := tright_any y By cy W' (by have := HSZ.out; have := HS.out; omega) (HMy.out.next h).tree
  rw [HRY.out] at this
  exact this)
 have HZx := Lib.hid (fun (W' : World) (h : Below w5.heap.size w5 W') => tsize_any x B cap W' (by have := HS.out; omega) (HMx.out.next h).tree)
 have HZy := Lib.hid (fun (W' : World) (h : Below w5.heap.size w5 W') => tsize_any y By cy W' (by have := HSZ.out; have := HS.out; omega) (HMy.out.next h).tree)
 have hdz : decide ((x.size : Int) < (y.size : Int)) = false := by
  rw [decide_eq_false_iff_not]
  have := HSZ.out
  omega
 unfold ndV at HTS HRy HZx HZy
 obtain ⟨p0, p1, p2, p3, p4, p5, p6, p7, pl⟩ := (HMx.out.box).c8n
 obtain ⟨q0, q1, q2, q3, q4, q5, q6, q7, ql⟩ := (HMy.out.box).c8n
 obtain ⟨r0, r1, r2, r3, r4, r5, r6, r7, rl⟩ := (HMz.out.box).c8n
 have HK0 := Lib.hid (HMw.out.below)
 clear HRY HFY
 generalize hnx : x.size = n at *
 have HNX := Lib.hid hnx
 clear hnx
 generalize hny : y.size = m at *
 have HNY := Lib.hid hny
 clear hny
 refine wp_region_noPanic ?_
 refine wp_region_held_drew (S := fun w' => (∀ b o, b < w5.heap.size → w'.cell? ⟨b, o, none⟩ = w5.cell? ⟨b, o, none⟩) ∧ Since w5.heap.size w5 w') (by kernel_rfl) (since_start (Nat.le_refl _)) (fun hHeld => ?_)
 have hs := since_start (w0 := w5) (Nat.le_refl w5.heap.size)
 refine wpAnyH_take (i := 0) (oi := _) (v := ?_) rfl (by kernel_rfl) (by kernel_rfl) (by kernel_rfl) (fun _ _ _ h => h) (Or.inl ⟨by kernel_rfl, ?_⟩) (by assumption) ?_
 rotate_left
 ·intro w hSw
  try dsimp only at hSw
  go_simp
  try (with_reducible rfl)
 try simp only [Act.put, nrmH]
 refine wpAnyH_take (i := 1) (oi := _) (v := ?_) rfl (by kernel_rfl) (by kernel_rfl) (by kernel_rfl) (fun _ _ _ h => h) (Or.inl ⟨by kernel_rfl, ?_⟩) (by assumption) ?_
 rotate_left
 ·intro w hSw
  try dsimp only at hSw
  go_simp
  try (with_reducible rfl)
 try simp only [Act.put, nrmH]
 refine wpAnyH_take (i := 2) (oi := _) (v := ?_) rfl (by kernel_rfl) (by kernel_rfl) (by kernel_rfl) (fun _ _ _ h => h) (Or.inl ⟨by kernel_rfl, ?_⟩) (by assumption) ?_
 rotate_left
 ·intro w hSw
  try dsimp only at hSw
  go_simp
  try (with_reducible rfl)
 try simp only [Act.put, nrmH]
 refine wpAnyH_take (i := 3) (oi := _) (v := ?_) rfl (by kernel_rfl) (by kernel_rfl) (by kernel_rfl) (fun _ _ _ h => h) (Or.inl ⟨by kernel_rfl, ?_⟩) (by assumption) ?_
 rotate_left
 ·intro w hSw
  try dsimp only at hSw
  go_simp
  try (with_reducible rfl)
 try simp only [Act.put, nrmH]
 refine wpAnyH_take (i := 4) (oi := _) (v := ?_) rfl (by kernel_rfl) (by kernel_rfl) (by kernel_rfl) (fun _ _ _ h => h) (Or.inl ⟨by kernel_rfl, ?_⟩) (by assumption) ?_
 rotate_left
 ·intro w hSw
  try dsimp only at hSw
  go_simp
  try (with_reducible rfl)
 try simp only [Act.put, nrmH]
 refine wpAnyH_ready (rs := [5]) (by kernel_rfl) (by simp) ?_
 refine AllReadyH.cons (o := _) rfl (fun K hK => ?_) AllReadyH.nil
 go_simp
 go_at_call 53
 refine (HTS.out _ hs.2.1).mono ?_
 rintro e v1 ⟨rfl, hb'⟩
 have hs := since_step hs hb'
 refine hK.out _ _ hs (fun _ => ?_)
 clear hK K hb'
 try simp only [Act.put, nrmH]
 refine wpAnyH_take (i := 6) (oi := _) (v := ?_) rfl (by kernel_rfl) (by kernel_rfl) (by kernel_rfl) (fun _ _ _ h => h) (Or.inl ⟨by kernel_rfl, ?_⟩) (by assumption) ?_
 rotate_left
 ·intro w hSw
  try dsimp only at hSw
  go_simp
  try (with_reducible rfl)
 try simp only [Act.put, nrmH]
 refine wpAnyH_take (i := 7) (oi := _) (v := ?_) rfl (by kernel_rfl) (by kernel_rfl) (by kernel_rfl) (fun _ _ _ h => h) (Or.inl ⟨by kernel_rfl, ?_⟩) (by assumption) ?_
 rotate_left
 ·intro w hSw
  try dsimp only at hSw
  go_simp
  try (with_reducible rfl)
 try simp only [Act.put, nrmH]
 refine wpAnyH_take (i := 8) (oi := _) (v := ?_) rfl (by kernel_rfl) (by kernel_rfl) (by kernel_rfl) (fun _ _ _ h => h) (Or.inl ⟨by kernel_rfl, ?_⟩) (by assumption) ?_
 rotate_left
 ·intro w hSw
  try dsimp only at hSw
  go_simp
  try (with_reducible rfl)
 try simp only [Act.put, nrmH]
 refine wpAnyH_take (i := 9) (oi := _) (v := ?_) rfl (by kernel_rfl) (by kernel_rfl) (by kernel_rfl) (fun _ _ _ h => h) (Or.inl ⟨by kernel_rfl, ?_⟩) (by assumption) ?_
 rotate_left
 ·intro w hSw
  try dsimp only at hSw
  go_simp
  try (with_reducible rfl)
 try simp only [Act.put, nrmH]
 refine wpAnyH_ready (rs := [10]) (by kernel_rfl) (by simp) ?_
 refine AllReadyH.cons (o := _) rfl (fun K hK => ?_) AllReadyH.nil
 go_simp
 go_at_call 15
 refine (HRy.out _ hs.2.1).mono ?_
 rintro e v2 ⟨rfl, hb'⟩
 have hs := since_step hs hb'
 refine hK.out _ _ hs (fun _ => ?_)
 clear hK K hb'
 try simp only [Act.put, nrmH]
 refine wpAnyH_take (i := 11) (oi := _) (v := ?_) rfl (by kernel_rfl) (by kernel_rfl) (by kernel_rfl) (fun _ _ _ h => h) (Or.inl ⟨by kernel_rfl, ?_⟩) (by assumption) ?_
 rotate_left
 ·intro w hSw
  try dsimp only at hSw
  go_simp
  try (with_reducible rfl)
 try simp only [Act.put, nrmH]
 refine wpAnyH_take (i := 12) (oi := _) (v := ?_) rfl (by kernel_rfl) (by kernel_rfl) (by kernel_rfl) (fun _ _ _ h => h) (Or.inl ⟨by kernel_rfl, ?_⟩) (by assumption) ?_
 rotate_left
 ·intro w hSw
  try dsimp only at hSw
  go_simp
  try (with_reducible rfl)
 try simp only [Act.put, nrmH]
 refine wpAnyH_take (i := 13) (oi := _) (v := ?_) rfl (by kernel_rfl) (by kernel_rfl) (by kernel_rfl) (fun _ _ _ h => h) (Or.inl ⟨by kernel_rfl, ?_⟩) (by assumption) ?_
 rotate_left
 ·intro w hSw
  try dsimp only at hSw
  go_simp
  try (with_reducible rfl)
 try simp only [Act.put, nrmH]
 refine wpAnyH_take (i := 14) (oi := _) (v := ?_) rfl (by kernel_rfl) (by kernel_rfl) (by kernel_rfl) (fun _ _ _ h => h) (Or.inl ⟨by kernel_rfl, ?_⟩) (by assumption) ?_
 rotate_left
 ·intro w hSw
  try dsimp only at hSw
  go_simp
  try (with_reducible rfl)
 try simp only [Act.put, nrmH]
 refine wpAnyH_take (i := 16) (oi := _) (v := ?_) rfl (by kernel_rfl) (by kernel_rfl) (by kernel_rfl) (fun _ _ _ h => h) (Or.inl ⟨by kernel_rfl, ?_⟩) (by assumption) ?_
 rotate_left
 ·intro w hSw
  try dsimp only at hSw
  go_simp
  try (with_reducible rfl)
 try simp only [Act.put, nrmH]
 refine wpAnyH_ready (rs := [15]) (by kernel_rfl) (by simp) ?_
 refine AllReadyH.cons (o := _) rfl (fun K hK => ?_) AllReadyH.nil
 go_simp
 go_at_call 14
 refine (HZy.out _ hs.2.1).mono ?_
 rintro e v3 ⟨rfl, hb'⟩
 have hs := since_step hs hb'
 refine hK.out _ _ hs (fun _ => ?_)
 clear hK K hb'
 try simp only [Act.put, nrmH]
 refine wpAnyH_ready (rs := [17]) (by kernel_rfl) (by simp) ?_
 refine AllReadyH.cons (o := _) rfl (fun K hK => ?_) AllReadyH.nil
 go_simp
 go_at_call 14
 refine (HZx.out _ hs.2.1).mono ?_
 rintro e v4 ⟨rfl, hb'⟩
 have hs := since_step hs hb'
 refine hK.out _ _ hs (fun _ => ?_)
 clear hK K hb'
 try simp only [Act.put, nrmH]
 refine wpAnyH_take (i := 18) (oi := _) (v := ?_) rfl (by kernel_rfl) (by kernel_rfl) (by kernel_rfl) (fun _ _ _ h => h) (Or.inl ⟨by kernel_rfl, ?_⟩) (by assumption) ?_
 rotate_left
 ·intro w hSw
  try dsimp only at hSw
  go_simp
  try (with_reducible rfl)
 try simp only [Act.put, nrmH]
 refine wpAnyH_take (i := 19) (oi := _) (v := ?_) rfl (by kernel_rfl) (by kernel_rfl) (by kernel_rfl) (fun _ _ _ h => h) (Or.inl ⟨by kernel_rfl, ?_⟩) (by assumption) ?_
 rotate_left
 ·intro w hSw
  try dsimp only at hSw
  go_simp
  try (with_reducible rfl)
 try simp only [Act.put, nrmH]
 refine wpAnyH_done (by kernel_rfl) ?_ _
 refine NoPanic.normal ?_
 have HBB := Lib.hid hs.2.1
 clear hs hHeld p0 p1 p2 p3 p4 p5 p6 p7 pl q0 q1 q2 q3 q4 q5 q6 q7 ql r0 r1 r2 r3 r4 r5 r6 r7 rl HTS HRy HZx HZy HMz
 have HMx2 := Lib.hid (HMx.out.next HBB.out)
 have HMw2 := Lib.hid (HMw.out.next HBB.out)
 have HMy2 := Lib.hid (HMy.out.next HBB.out)
 clear HMx HMw HMy HBB
 obtain ⟨p0, p1, p2, p3, p4, p5, p6, p7, pl⟩ := (HMx2.out.box).c8n
 obtain ⟨q0, q1, q2, q3, q4, q5, q6, q7, ql⟩ := (HMy2.out.box).c8n
 have HFx := Lib.hid (fun (W' : World) (h : Below v4.heap.size v4 W') => full_in (HMx2.out.next h) (HMw2.out.next h) (by rw [HNX.out]; have := HFW.out; omega))
 have HFy := Lib.hid (fun (W' : World) (h : Below v4.heap.size v4 W') => by
  have := full_in (HMy2.out.next h) (HMw2.out.next h) (by rw [HNY.out]; have := HSZ.out; have := HFW.out; omega)
  rw [HFE.out] at this
  exact this)
 have HK := Lib.hid (fun (W' : World) (h : Below v4.heap.size v4 W') => knows12_go W' (HMw2.out.next h).tab (HMw2.out.next h).pos)
 have HW9 := Lib.hid HMw2.out.below
 unfold ndV at HFx HFy
 clear HFE HMx2 HMw2 HMy2
 generalize fullB x bs = f at *
 have hd2 : ¬ (n : Int) < (m : Int) := of_decide_eq_false hdz
 clear hdz
 go_upto_region 7 with fail
 clear hd hd2 hl
 cases f
 all_goals
  refine wp_region_noPanic ?_
  refine wp_region_held_drew (S := fun w' => (∀ b o, b < v4.heap.size → w'.cell? ⟨b, o, none⟩ = v4.cell? ⟨b, o, none⟩) ∧ Since v4.heap.size v4 w') (by kernel_rfl) (since_start (Nat.le_refl _)) (fun hHeld => ?_)
  have hs := since_start (w0 := v4) (Nat.le_refl v4.heap.size)
  refine wpAnyH_take (i := 0) (oi := _) (v := ?_) rfl (by kernel_rfl) (by kernel_rfl) (by kernel_rfl) (fun _ _ _ h => h) (Or.inl ⟨by kernel_rfl, ?_⟩) (by assumption) ?_
  rotate_left
  ·intro w hSw
   try dsimp only at hSw
   go_simp
   try (with_reducible rfl)
  try simp only [Act.put, nrmH]
  refine wpAnyH_take (i := 1) (oi := _) (v := ?_) rfl (by kernel_rfl) (by kernel_rfl) (by kernel_rfl) (fun _ _ _ h => h) (Or.inl ⟨by kernel_rfl, ?_⟩) (by assumption) ?_
  rotate_left
  ·intro w hSw
   try dsimp only at hSw
   go_simp
   try (with_reducible rfl)
  try simp only [Act.put, nrmH]
  refine wpAnyH_take (i := 3) (oi := _) (v := ?_) rfl (by kernel_rfl) (by kernel_rfl) (by kernel_rfl) (fun _ _ _ h => h) (Or.inl ⟨by kernel_rfl, ?_⟩) (by assumption) ?_
  rotate_left
  ·intro w hSw
   try dsimp only at hSw
   go_simp
   try (with_reducible rfl)
  try simp only [Act.put, nrmH]
  refine wpAnyH_take (i := 4) (oi := _) (v := ?_) rfl (by kernel_rfl) (by kernel_rfl) (by kernel_rfl) (fun _ _ _ h => h) (Or.inl ⟨by kernel_rfl, ?_⟩) (by assumption) ?_
  rotate_left
  ·intro w hSw
   try dsimp only at hSw
   go_simp
   try (with_reducible rfl)
  try simp only [Act.put, nrmH]
  refine wpAnyH_ready (rs := [2]) (by kernel_rfl) (by simp) ?_
  refine AllReadyH.cons (o := _) rfl (fun K hK => ?_) AllReadyH.nil
  go_simp
  go_at_call 12
  refine (HFx.out _ hs.2.1).mono ?_
  rintro e v5 ⟨rfl, hb'⟩
  have hs := since_step hs hb'
  refine hK.out _ _ hs (fun _ => ?_)
  clear hK K hb'
  try simp only [Act.put, nrmH]
  refine wpAnyH_ready (rs := [5]) (by kernel_rfl) (by simp) ?_
  refine AllReadyH.cons (o := _) rfl (fun K hK => ?_) AllReadyH.nil
  go_simp
  go_at_call 12
  refine (HFy.out _ hs.2.1).mono ?_
  rintro e v6 ⟨rfl, hb'⟩
  have hs := since_step hs hb'
  refine hK.out _ _ hs (fun _ => ?_)
  clear hK K hb'
  try simp only [Act.put, nrmH]
  refine wpAnyH_take (i := 6) (oi := _) (v := ?_) rfl (by kernel_rfl) (by kernel_rfl) (by kernel_rfl) (fun _ _ _ h => h) (Or.inl ⟨by kernel_rfl, ?_⟩) (by assumption) ?_
  rotate_left
  ·intro w hSw
   try dsimp only at hSw
   go_simp
   try (with_reducible rfl)
  try simp only [Act.put, nrmH]
  refine wpAnyH_take (i := 7) (oi := _) (v := ?_) rfl (by kernel_rfl) (by kernel_rfl) (by kernel_rfl) (fun _ _ _ h => h) (Or.inl ⟨by kernel_rfl, ?_⟩) (by assumption) ?_
  rotate_left
  ·intro w hSw
   try dsimp only at hSw
   go_simp
   try (with_reducible rfl)
  try simp only [Act.put, nrmH]
  refine wpAnyH_ready (rs := [8]) (by kernel_rfl) (by simp) ?_
  refine AllReadyH.cons (o := _) rfl (fun K hK => ?_) AllReadyH.nil
  go_simp
  go_at_call 26
  refine (HK.out _ hs.2.1).mono ?_
  rintro e v7 ⟨rfl, hb'⟩
  have hs := since_step hs hb'
  refine hK.out _ _ hs (fun _ => ?_)
  clear hK K hb'
  try simp only [Act.put, nrmH]
  refine wpAnyH_take (i := 9) (oi := _) (v := ?_) rfl (by kernel_rfl) (by kernel_rfl) (by kernel_rfl) (fun _ _ _ h => h) (Or.inl ⟨by kernel_rfl, ?_⟩) (by assumption) ?_
  rotate_left
  ·intro w hSw
   try dsimp only at hSw
   go_simp
   try (with_reducible rfl)
  try simp only [Act.put, nrmH]
  refine wpAnyH_take (i := 10) (oi := _) (v := ?_) rfl (by kernel_rfl) (by kernel_rfl) (by kernel_rfl) (fun _ _ _ h => h) (Or.inl ⟨by kernel_rfl, ?_⟩) (by assumption) ?_
  rotate_left
  ·intro w hSw
   try dsimp only at hSw
   go_simp
   try (with_reducible rfl)
  try simp only [Act.put, nrmH]
  have HB9 := Lib.hid (HW9.out.trans (hs.2.1.mono HW9.out.size))
  refine wpAnyH_done (by kernel_rfl) ?_ _
  refine NoPanic.normal ?_
  clear hs
  go_wp2
  go_light
  go_ret
  exact ⟨rfl, HB9.out⟩
theorem simpleSame_law (x : Nd) (B : Option Addr) (cap : Nat) (V : Option Addr) (cv : Nat) (bs : List Nat) (w : World) (hsx : x.size ≤ 1048576) (hlx : x.kids.len ≤ cap) (htx : TreesAt w (fun c => c < w.heap.size) x.kids B) (hV : BytesAt w w.heap.size V bs) (hcv : bs.length ≤ cv) (hT : TabAt 0 Lib.deBruijn64tab w) (hw0 : 0 < w.heap.size) :
  Calls Tryz.prog 10 #[ndV x B cap, .slice V bs.length cv] w fun e w' => e = .returned (.bool true) ∧ Below w.heap.size w w' := by
 rw [← ndV_cut x B cap]
 exact simpleSame_go x.cut B cap V cv bs w (by rw [x.size_cut]; exact hsx) x.fit_cut (by show x.kids.cut.len ≤ cap; rw [Trees.len_cut]; exact hlx) htx.cut hV hcv hT hw0
end Go.Proofs.YtofbfafnpdaejaaGreatDoor
