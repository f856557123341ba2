/-
  The walk of ParseSound.
-/
import Derived.Test.YtkelkadalikibaaQTRight
import Derived.Test.YtkelkadalikibaaQKnows07
namespace Go.Proofs.Ytkelkadalikibaa
open Go.RowKit
set_option linter.unusedSimpArgs false
set_option linter.unusedVariables false
set_option maxRecDepth 100000

theorem wrongS_kind : ∀ (L : List Lex) (op : List Int) (p : Bool) {k q : Int}, wrongS op p L = some (k, q) → k ≠ 0
  | [], [], p, k, q, h => by rw [wrongS] at h; cases h
  | [], x :: op, p, k, q, h => by
    rw [wrongS] at h
    cases h
    decide
  | y :: L, op, p, k, q, h => by
    unfold wrongS at h
    split at h
    · exact wrongS_kind L _ _ h
    split at h
    · split at h
      · cases h; decide
      · exact wrongS_kind L _ _ h
    split at h
    · split at h
      · cases h; decide
      · exact wrongS_kind L _ _ h
    split at h
    · exact wrongS_kind L _ _ h
    split at h
    · cases h; decide
    · exact wrongS_kind L _ _ h
theorem lexemesS_kind {L : List Lex} {k q : Int} (h : lexemesS L = .error (k, q)) : k ≠ 0 := by
  unfold lexemesS at h
  split at h
  · simp at h; omega
  rename_i hall
  split at h
  · have h1 := Except.error.inj h
    simp at h1
    omega
  · have hk : Kinds L := fun y hy => by
      have h1 : rightS y = true := by
        have : L.all rightS = true := by simpa using hall
        exact List.all_eq_true.1 this y hy
      have := rightS_cases h1
      omega
    have hw := read_wrong L hk
    split at h
    · rename_i e he
      rw [he] at hw
      have h1 := Except.error.inj h
      subst h1
      exact wrongS_kind L [] false hw
    · cases h
theorem parseS_kind {bs : List Nat} (hb : ∀ x ∈ bs, x < 256) {k q : Int} (h : parseS bs = .error (k, q)) : k ≠ 0 := by
  unfold parseS at h
  cases hs : splitS bs with
  | error e =>
    rw [hs] at h
    have h1 := Except.error.inj h
    subst h1
    exact splitS_kind hb hs
  | ok L =>
    rw [hs] at h
    exact lexemesS_kind h

set_option maxHeartbeats 2000000 in
theorem sound_bad (A : Option Addr) (cap : Nat) (bs : List Nat) (w : World) (hA : BytesAt w w.heap.size A bs) (hcap : bs.length ≤ cap) {k q : Int} (h : parseS bs = .error (k, q)) :
    Calls Try.prog 8 #[.slice A bs.length cap] w fun e w' => e = .returned (.bool true) ∧ Below w.heap.size w w' := by
  have hk : (k != 0) = true := by simpa using parseS_kind hA.1 h
  obtain ⟨hq0, hq1⟩ := parseS_at hA.1 h
  have h1 := text_go07 A cap bs w hA hcap
  rw [h] at h1
  have H1 := Lib.hid h1
  clear h h1 hA
  go_enter Try.func8, Try.ntmps8
  go_wp2_with fail
  refine H1.out.mono ?_
  rintro e w1 ⟨rfl, hb1⟩
  have HB1 := Lib.hid hb1
  clear hb1 H1
  unfold zeroN
  dsimp only
  go_wp2_with fail
  refine (knows07_go _).mono ?_
  rintro e w6 ⟨rfl, hb6⟩
  have hb2 : Below w1.heap.size w1 ((w1.alloc (.cells #[.int .i64 0, .int .u64 0, .int .u64 0, .int .u64 0, .int .u64 0, .slice none 0 0, .int .i64 0, .int .i64 0] 42)).alloc (.cells #[.int .i64 k, .int .i64 q] 26)) := ((Below.refl _ _).alloc (Nat.le_refl _) _).alloc (by simp) _
  have hb3 := HB1.out.trans (hb2.mono HB1.out.size)
  have HB6 := Lib.hid (hb3.trans (hb6.mono hb3.size))
  clear hb2 hb3 hb6 HB1
  dsimp only
  go_wp2
  go_light
  go_ret
  exact ⟨rfl, HB6.out⟩
set_option maxHeartbeats 2000000 in
theorem sound_ok (A : Option Addr) (cap : Nat) (bs : List Nat) (w : World) (hA : BytesAt w w.heap.size A bs) (hcap : bs.length ≤ cap) {x : Nd} (h : parseS bs = .ok x) :
    Calls Try.prog 8 #[.slice A bs.length cap] w fun e w' => e = .returned (.bool true) ∧ Below w.heap.size w w' := by
  have hsz := parseS_size h
  have hs := parseS_sound h
  have h1 := text_go07 A cap bs w hA hcap
  rw [h] at h1
  have H1 := Lib.hid h1
  clear h h1 hA
  go_enter Try.func8, Try.ntmps8
  go_wp2_with fail
  refine H1.out.mono ?_
  rintro e w1 ⟨B, cap1, rfl, hb1, hc1, ht1⟩
  have hb2 : Below w1.heap.size w1 ((w1.alloc (.cells (ndA x B cap1) 42)).alloc (.cells #[.int .i64 0, .int .i64 0] 26)) := ((Below.refl _ _).alloc (Nat.le_refl _) _).alloc (by simp) _
  have HB2 := Lib.hid (hb1.trans (hb2.mono hb1.size))
  have HR := Lib.hid (tright_go x B cap1 ((w1.alloc (.cells (ndA x B cap1) 42)).alloc (.cells #[.int .i64 0, .int .i64 0] 26)) (by omega) hs ((ht1.below hb2).weak (fun b _ hb => hb)))
  clear hb1 ht1 hb2 H1 hs
  unfold ndV at HR
  unfold ndV
  dsimp only
  go_wp2_with fail
  refine HR.out.mono ?_
  rintro e w3 ⟨rfl, hb3⟩
  have HB3 := Lib.hid (HB2.out.trans (hb3.mono HB2.out.size))
  clear hb3 HR HB2
  dsimp only
  go_wp2_with fail
  refine (knows07_go _).mono ?_
  rintro e w6 ⟨rfl, hb6⟩
  have HB6 := Lib.hid (HB3.out.trans (hb6.mono HB3.out.size))
  clear hb6
  dsimp only
  go_wp2
  go_light
  go_ret
  exact ⟨rfl, HB6.out⟩

theorem sound_go (A : Option Addr) (cap : Nat) (bs : List Nat) (w : World) (hA : BytesAt w w.heap.size A bs) (hcap : bs.length ≤ cap) :
    Calls Try.prog 8 #[.slice A bs.length cap] w fun e w' => e = .returned (.bool true) ∧ Below w.heap.size w w' := by
  cases h : parseS bs with
  | error x =>
    obtain ⟨k, q⟩ := x
    exact sound_bad A cap bs w hA hcap h
  | ok x => exact sound_ok A cap bs w hA hcap h

end Go.Proofs.Ytkelkadalikibaa
