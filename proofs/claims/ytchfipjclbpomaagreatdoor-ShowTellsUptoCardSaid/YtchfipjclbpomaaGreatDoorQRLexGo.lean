/-
  The contract of the reference's Lexemes.
-/
import Derived.Test.YtchfipjclbpomaaGreatDoorQRAltGo
import Derived.Test.YtchfipjclbpomaaGreatDoorQRWrong
import Derived.Test.YtchfipjclbpomaaGreatDoorQText07
namespace Go.Proofs.YtchfipjclbpomaaGreatDoor
open Go.RowKit
set_option linter.unusedSimpArgs false
set_option linter.unusedVariables false
set_option maxRecDepth 100000

theorem kinds_right {L : List Lex} (h : L.all rightS = true) : Kinds L := fun y hy => by
  obtain ⟨_, h1 | h1 | h1⟩ := rightS_cases (List.all_eq_true.1 h y hy)
  · omega
  · omega
  · omega
theorem wrongS_kind : ∀ (L : List Lex) (op : List Int) (p : Bool) (k q : Int), wrongS op p L = some (k, q) → k ≠ 0
  | [], op, p, k, q, h => by
    cases op with
    | nil => cases h
    | cons x op => cases h; decide
  | y :: L, op, p, k, q, h => by
    unfold wrongS at h
    split at h
    · exact wrongS_kind L _ _ k q h
    split at h
    · split at h
      · cases h; decide
      · exact wrongS_kind L _ _ k q h
    split at h
    · split at h
      · cases h; decide
      · exact wrongS_kind L _ _ k q h
    split at h
    · exact wrongS_kind L _ _ k q h
    split at h
    · cases h; decide
    · exact wrongS_kind L _ _ k q h
/-- The results' blocks, both zero. -/
def Z07 (w wr : World) : Prop := Blk wr w.heap.size 28 #[.int .i64 0, .int .u64 0, .int .u64 0, .int .u64 0, .int .u64 0, .slice none 0 0, .int .i64 0, .int .i64 0] ∧ Blk wr (w.heap.size + 1) 51 #[.int .i64 0, .int .i64 0] ∧ Below w.heap.size w wr
theorem Z07.below {w wr w2 : World} (h : Z07 w wr) (hb : Below wr.heap.size wr w2) : Z07 w w2 := ⟨h.1.below hb h.1.lt, h.2.1.below hb h.2.1.lt, h.2.2.trans (hb.mono h.2.2.size)⟩
theorem z07_start (w : World) : Z07 w ((w.alloc (.cells #[.int .i64 0, .int .u64 0, .int .u64 0, .int .u64 0, .int .u64 0, .slice none 0 0, .int .i64 0, .int .i64 0] 28)).alloc (.cells #[.int .i64 0, .int .i64 0] 51)) := ⟨(Blk.new w _ _).alloc _, Blk.new_at (by simp), ((Below.refl _ _).alloc (Nat.le_refl _) _).alloc (by simp) _⟩
set_option maxHeartbeats 8000000 in
theorem rlexemes_go (A : Option Addr) (cap : Nat) (L : List Lex) (w : World) (hA : LexsAt w w.heap.size A L) (hlen : L.length ≤ 140737488355328) :
    Calls Tryz.prog 20 #[.slice A L.length cap] w (TreeOut (lexemesS L) w) := by
  have HA := Lib.hid hA
  have H0 := Lib.hid (z07_start w)
  clear hA
  go_enter Tryz.func20, Tryz.ntmps20
  go_wp2
  go_loopw [4] (fun i wr => ∃ k : Nat, i = .int .i64 (k : Int) ∧ k ≤ L.length ∧ Hid (Z07 w wr) ∧ Hid (∀ j x, j < k → L[j]? = some x → rightS x = true)) (fun i _ => L.length - (intOf i).toNat)
  case atStart => exact ⟨0, rfl, Nat.zero_le _, H0, Lib.hid (fun j x hj => by omega)⟩
  case round =>
    clear H0
    obtain ⟨k, rfl, hk, HZ, HR⟩ := hrel
    have hsz := HZ.out.2.2.size
    by_cases hlt : k < L.length
    · obtain ⟨x, hx⟩ : ∃ x, L[k]? = some x := ⟨_, List.getElem?_eq_getElem hlt⟩
      obtain ⟨b, o, rfl, hbl, c0, c1, c2, c3, c4, c5, c6, c7⟩ := ((HA.out.below HZ.out.2.2).more hsz).at' hx
      have Hx := Lib.hid hx
      have hdl : (k : Int) < (L.length : Int) := by omega
      clear hx
      go_wp2_with fail
      refine (rright_go _ _ _ _ _ _ _ _ _).mono ?_
      rintro e w1 ⟨rfl, hb1⟩
      have hZ1 := HZ.out.below hb1
      have HZ1 := Lib.hid hZ1
      clear hb1 c0 c1 c2 c3 c4 c5 c6 c7
      cases hr : rightS x
      · have hr' := hr
        unfold rightS at hr'
        rw [hr']
        have HV := Lib.hid (show lexemesS L = .error (6, 0) by
          have h1 := readyS_bad Hx.out hr
          rw [lexemesS_bad (by rw [h1]; decide), h1])
        have hz1 := hZ1.1
        have y0 : w1.cell? ⟨w.heap.size, 0, none⟩ = some (.int .i64 0) := hz1.cell 0
        have y1 : w1.cell? ⟨w.heap.size, 1, none⟩ = some (.int .u64 0) := hz1.cell 1
        have y2 : w1.cell? ⟨w.heap.size, 2, none⟩ = some (.int .u64 0) := hz1.cell 2
        have y3 : w1.cell? ⟨w.heap.size, 3, none⟩ = some (.int .u64 0) := hz1.cell 3
        have y4 : w1.cell? ⟨w.heap.size, 4, none⟩ = some (.int .u64 0) := hz1.cell 4
        have y5 : w1.cell? ⟨w.heap.size, 5, none⟩ = some (.slice none 0 0) := hz1.cell 5
        have y6 : w1.cell? ⟨w.heap.size, 6, none⟩ = some (.int .i64 0) := hz1.cell 6
        have y7 : w1.cell? ⟨w.heap.size, 7, none⟩ = some (.int .i64 0) := hz1.cell 7
        have z0 := hz1.frozen 0
        have z1 := hz1.frozen 1
        have z2 := hz1.frozen 2
        have z3 := hz1.frozen 3
        have z4 := hz1.frozen 4
        have z5 := hz1.frozen 5
        have z6 := hz1.frozen 6
        have z7 := hz1.frozen 7
        obtain ⟨b0, b1, f0, f1⟩ := hZ1.2.1.c2
        clear hr hr' hZ1 hz1
        go_wp2
        go_light
        rw [HV.out]
        exact bodyPost_ret (ret_tree Tryz.results20 rfl rfl ((HZ1.out.1.put8 _ _ _ _ _ _ _ _).far2 (by omega) _ _) ((HZ1.out.2.1.past8 (by omega) _ _ _ _ _ _ _ _).set2)) rfl ⟨rfl, below_set2 (below_put8 HZ1.out.2.2 (Nat.le_refl _) _ _ _ _ _ _ _ _) (by omega) _ _⟩
      · have hr' := hr
        unfold rightS at hr'
        rw [hr']
        have Hr := Lib.hid hr
        clear hr hr' hZ1
        go_wp2
        go_roundw
        case rel => exact ⟨k + 1, by go_num, by omega, HZ1, Lib.hid (fun j y hj hy => by
          rcases Nat.lt_or_ge j k with h | h
          · exact HR.out j y h hy
          · obtain rfl : j = k := by omega
            have := Hx.out.symm.trans hy
            obtain rfl : x = y := by simpa using this
            exact Hr.out)⟩
        case measure => simp [intOf]; omega
    · have hdl : ¬ (k : Int) < (L.length : Int) := by omega
      have Hall := Lib.hid (all_right (L := L) (fun j x hx => HR.out j x (by have := (List.getElem?_eq_some_iff.1 hx).1; omega) hx))
      clear HR
      by_cases h1024 : L.length ≤ 1024
      · have hd : ¬ (1024 : Int) < (L.length : Int) := by omega
        have HV := Lib.hid (lexemesS_ok Hall.out h1024)
        have hW := read_wrong L (kinds_right Hall.out)
        have HWG := Lib.hid (wrong_go A cap L wr ((HA.out.below HZ.out.2.2).more hsz) (by omega))
        cases hx : altG (3 * L.length + 3) [] [] L with
        | error x =>
          obtain ⟨kk, q⟩ := x
          rw [hx] at hW HV
          have HV := Lib.hid (show lexemesS L = .error (kk, q) from HV.out)
          have hk0 : (kk != 0) = true := by rw [bne_iff_ne]; exact wrongS_kind L [] false kk q hW
          rw [show wrongS [] false L = some (kk, q) from hW] at HWG
          clear hx hW
          go_wp2_with fail
          refine HWG.out.mono ?_
          rintro e w1 ⟨rfl, hb1⟩
          have hZ1 := HZ.out.below hb1
          have HZ1 := Lib.hid hZ1
          have hz1 := hZ1.1
          have y0 : w1.cell? ⟨w.heap.size, 0, none⟩ = some (.int .i64 0) := hz1.cell 0
          have y1 : w1.cell? ⟨w.heap.size, 1, none⟩ = some (.int .u64 0) := hz1.cell 1
          have y2 : w1.cell? ⟨w.heap.size, 2, none⟩ = some (.int .u64 0) := hz1.cell 2
          have y3 : w1.cell? ⟨w.heap.size, 3, none⟩ = some (.int .u64 0) := hz1.cell 3
          have y4 : w1.cell? ⟨w.heap.size, 4, none⟩ = some (.int .u64 0) := hz1.cell 4
          have y5 : w1.cell? ⟨w.heap.size, 5, none⟩ = some (.slice none 0 0) := hz1.cell 5
          have y6 : w1.cell? ⟨w.heap.size, 6, none⟩ = some (.int .i64 0) := hz1.cell 6
          have y7 : w1.cell? ⟨w.heap.size, 7, none⟩ = some (.int .i64 0) := hz1.cell 7
          have z0 := hz1.frozen 0
          have z1 := hz1.frozen 1
          have z2 := hz1.frozen 2
          have z3 := hz1.frozen 3
          have z4 := hz1.frozen 4
          have z5 := hz1.frozen 5
          have z6 := hz1.frozen 6
          have z7 := hz1.frozen 7
          obtain ⟨b0, b1, f0, f1⟩ := hZ1.2.1.c2
          have hlt1 := hZ1.1.lt
          have hlt2 := hZ1.2.1.lt
          have hne1 : w.heap.size ≠ w1.heap.size := by omega
          have hne2 : w.heap.size + 1 ≠ w1.heap.size := by omega
          clear hb1 hZ1 hz1 HWG
          unfold badOf
          dsimp only
          go_wp2
          go_region
          all_goals go_wp2
          all_goals go_light
          rw [HV.out]
          exact bodyPost_ret (ret_tree Tryz.results20 rfl rfl (((HZ1.out.1.put8 _ _ _ _ _ _ _ _).far2 (by omega) _ _).alloc _).drew (((HZ1.out.2.1.past8 (by omega) _ _ _ _ _ _ _ _).set2).alloc _).drew) rfl ⟨rfl, ((below_set2 (below_put8 HZ1.out.2.2 (Nat.le_refl _) _ _ _ _ _ _ _ _) (by omega) _ _).alloc (by have := HZ1.out.2.2.size; simpa [World.setCell] using this) _).drew⟩
        | ok x =>
          obtain ⟨x, R⟩ := x
          rw [hx] at hW HV
          have HV := Lib.hid (show lexemesS L = .ok x from HV.out)
          rw [show wrongS [] false L = none from hW.2] at HWG
          have HRd := Lib.hid (fun w1 hL1 => rreads_go (3 * L.length + 3) [] 0 x R A cap L w1 hx hL1 (Nat.zero_le _) (by omega))
          clear hx hW
          go_wp2_with fail
          refine HWG.out.mono ?_
          rintro e w1 ⟨rfl, hb1⟩
          have hb2 : Below w1.heap.size w1 (w1.alloc (.cells #[.int .i64 0, .int .i64 0] 51)) := (Below.refl _ _).alloc (Nat.le_refl _) _
          have HZ2 := Lib.hid ((HZ.out.below hb1).below hb2)
          have HL2 := Lib.hid ((HA.out.below HZ2.out.2.2).more HZ2.out.2.2.size)
          clear hb1 hb2 HWG
          unfold badOf
          dsimp only
          go_wp2_with fail
          refine (HRd.out _ HL2.out).mono ?_
          rintro e w3 ⟨B3, cap3, rfl, hb3, hc3, ht3⟩
          have hw12 := HZ2.out.2.1.lt
          have hb4 : Below w3.heap.size w3 (w3.alloc (.cells (ndA x B3 cap3) 28)) := (Below.refl _ _).alloc (Nat.le_refl _) _
          have hZ3 := HZ2.out.below hb3
          have HZ3 := Lib.hid hZ3
          have HT3 := Lib.hid (ht3.weak (Q := fun b => w.heap.size + 2 ≤ b) (fun b hb _ => by omega))
          have hz3 := hZ3.1
          have y0 : w3.cell? ⟨w.heap.size, 0, none⟩ = some (.int .i64 0) := hz3.cell 0
          have y1 : w3.cell? ⟨w.heap.size, 1, none⟩ = some (.int .u64 0) := hz3.cell 1
          have y2 : w3.cell? ⟨w.heap.size, 2, none⟩ = some (.int .u64 0) := hz3.cell 2
          have y3 : w3.cell? ⟨w.heap.size, 3, none⟩ = some (.int .u64 0) := hz3.cell 3
          have y4 : w3.cell? ⟨w.heap.size, 4, none⟩ = some (.int .u64 0) := hz3.cell 4
          have y5 : w3.cell? ⟨w.heap.size, 5, none⟩ = some (.slice none 0 0) := hz3.cell 5
          have y6 : w3.cell? ⟨w.heap.size, 6, none⟩ = some (.int .i64 0) := hz3.cell 6
          have y7 : w3.cell? ⟨w.heap.size, 7, none⟩ = some (.int .i64 0) := hz3.cell 7
          have z0 := hz3.frozen 0
          have z1 := hz3.frozen 1
          have z2 := hz3.frozen 2
          have z3 := hz3.frozen 3
          have z4 := hz3.frozen 4
          have z5 := hz3.frozen 5
          have z6 := hz3.frozen 6
          have z7 := hz3.frozen 7
          obtain ⟨b0, b1, f0, f1⟩ := hZ3.2.1.c2
          have hlt1 := hZ3.1.lt
          have hlt2 := hZ3.2.1.lt
          clear hb3 ht3 hb4 hZ3 hz3 HRd HL2
          unfold ndV
          dsimp only
          go_wp2
          go_light
          have hF := laid (x := x) (B := B3) (cap := cap3) (k := 0) (q := 0) HZ3.out.1 HZ3.out.2.1 HZ3.out.2.2 HT3.out rfl
          rw [HV.out]
          exact bodyPost_ret (ret_tree Tryz.results20 rfl rfl (Blk.alloc hF.1 _) (Blk.alloc hF.2.1 _)) rfl ⟨B3, cap3, rfl, hF.2.2.1.alloc hF.2.2.1.size _, hc3, hF.2.2.2.below ((Below.refl _ _).alloc (Nat.le_refl _) _)⟩
      · obtain ⟨x, hx⟩ : ∃ x, L[1024]? = some x := ⟨_, List.getElem?_eq_getElem (by omega)⟩
        have HV := Lib.hid (show lexemesS L = .error (4, x.place) by
          have h1 := readyS_long Hall.out hx
          rw [lexemesS_bad (by rw [h1]; show (4 : Int) ≠ 0; decide), h1])
        have hd : (1024 : Int) < (L.length : Int) := by omega
        obtain ⟨b, o, rfl, hbl, _, c1, _⟩ := ((HA.out.below HZ.out.2.2).more hsz).at' hx
        have c1' : wr.cell? ⟨b, o + 8193, none⟩ = some (.int .i64 x.place) := c1
        have hZ1 := HZ.out
        have hz1 := hZ1.1
        have y0 : wr.cell? ⟨w.heap.size, 0, none⟩ = some (.int .i64 0) := hz1.cell 0
        have y1 : wr.cell? ⟨w.heap.size, 1, none⟩ = some (.int .u64 0) := hz1.cell 1
        have y2 : wr.cell? ⟨w.heap.size, 2, none⟩ = some (.int .u64 0) := hz1.cell 2
        have y3 : wr.cell? ⟨w.heap.size, 3, none⟩ = some (.int .u64 0) := hz1.cell 3
        have y4 : wr.cell? ⟨w.heap.size, 4, none⟩ = some (.int .u64 0) := hz1.cell 4
        have y5 : wr.cell? ⟨w.heap.size, 5, none⟩ = some (.slice none 0 0) := hz1.cell 5
        have y6 : wr.cell? ⟨w.heap.size, 6, none⟩ = some (.int .i64 0) := hz1.cell 6
        have y7 : wr.cell? ⟨w.heap.size, 7, none⟩ = some (.int .i64 0) := hz1.cell 7
        have z0 := hz1.frozen 0
        have z1 := hz1.frozen 1
        have z2 := hz1.frozen 2
        have z3 := hz1.frozen 3
        have z4 := hz1.frozen 4
        have z5 := hz1.frozen 5
        have z6 := hz1.frozen 6
        have z7 := hz1.frozen 7
        obtain ⟨b0, b1, f0, f1⟩ := hZ1.2.1.c2
        clear hx c1 hZ1 hz1 h1024
        go_wp2
        go_region
        all_goals go_wp2
        all_goals go_light
        rw [HV.out]
        exact bodyPost_ret (ret_tree Tryz.results20 rfl rfl ((HZ.out.1.put8 _ _ _ _ _ _ _ _).far2 (by omega) _ _).drew ((HZ.out.2.1.past8 (by omega) _ _ _ _ _ _ _ _).set2).drew) rfl ⟨rfl, (below_set2 (below_put8 HZ.out.2.2 (Nat.le_refl _) _ _ _ _ _ _ _ _) (by omega) _ _).drew⟩

end Go.Proofs.YtchfipjclbpomaaGreatDoor
