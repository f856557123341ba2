/-
  Words compared: cmp.Compare, cmp.Or, bytes.Compare, the words' compare, the reference's Less, slices.MinFunc; bytes appended to a row of one's own.
-/
import Derived.Lib.BytesEntry
import Derived.Test.YtfekpkelmliejaaGreatDoorQLstS
import Derived.Test.YtfekpkelmliejaaGreatDoorQFactK
namespace Go.Proofs.YtfekpkelmliejaaGreatDoor
open Go.RowKit
set_option linter.unusedSimpArgs false
set_option linter.unusedVariables false
set_option maxRecDepth 100000

theorem u8_lt {a b : Nat} (ha : a < 256) (hb : b < 256) : (UInt8.ofNat a < UInt8.ofNat b) ↔ a < b := by
  rw [UInt8.lt_iff_toNat_lt, UInt8.toNat_ofNat', UInt8.toNat_ofNat', Nat.mod_eq_of_lt (by simpa using ha), Nat.mod_eq_of_lt (by simpa using hb)]
theorem u8_eq {a b : Nat} (ha : a < 256) (hb : b < 256) : (UInt8.ofNat a = UInt8.ofNat b) ↔ a = b := by
  rw [← UInt8.toNat_inj, UInt8.toNat_ofNat', UInt8.toNat_ofNat', Nat.mod_eq_of_lt (by simpa using ha), Nat.mod_eq_of_lt (by simpa using hb)]
theorem less_map : ∀ (a b : List Nat), (∀ c ∈ a, c < 256) → (∀ c ∈ b, c < 256) → Op.bytesLess (a.map UInt8.ofNat) (b.map UInt8.ofNat) = lexLt a b
  | [], [], _, _ => rfl
  | [], _ :: _, _, _ => rfl
  | _ :: _, [], _, _ => rfl
  | a :: x, b :: y, ha, hb => by
    have ih := less_map x y (fun c hc => ha c (by simp [hc])) (fun c hc => hb c (by simp [hc]))
    have h1 := ha a (by simp)
    have h2 := hb b (by simp)
    simp only [List.map_cons, Op.bytesLess, lexLt, ih]
    rw [show decide (UInt8.ofNat a < UInt8.ofNat b) = decide (a < b) from decide_eq_decide.2 (u8_lt h1 h2), show (UInt8.ofNat a == UInt8.ofNat b) = (a == b) by rw [Bool.eq_iff_iff]; simp [u8_eq h1 h2]]
theorem strOf_data (l : List Nat) : (strOf l).data.toList = l.map UInt8.ofNat := by simp [strOf]
theorem less_str {a b : List Nat} (ha : ∀ c ∈ a, c < 256) (hb : ∀ c ∈ b, c < 256) : Op.bytesLess (strOf a).toList (strOf b).toList = lexLt a b := by
  rw [ByteArray.toList_eq, ByteArray.toList_eq, strOf_data, strOf_data, less_map a b ha hb]
theorem cmp_map : ∀ (a b : List Nat), (∀ c ∈ a, c < 256) → (∀ c ∈ b, c < 256) → (Lib.compareBytes (a.map UInt8.ofNat) (b.map UInt8.ofNat) < 0 ↔ lexLt a b = true)
  | [], [], _, _ => by simp [Lib.compareBytes, lexLt]
  | [], _ :: _, _, _ => by simp [Lib.compareBytes, lexLt]
  | _ :: _, [], _, _ => by simp [Lib.compareBytes, lexLt]
  | a :: x, b :: y, ha, hb => by
    have ih := cmp_map x y (fun c hc => ha c (by simp [hc])) (fun c hc => hb c (by simp [hc]))
    have h1 := ha a (by simp)
    have h2 := hb b (by simp)
    simp only [List.map_cons, Lib.compareBytes, lexLt, u8_lt h1 h2, u8_lt h2 h1]
    rcases Nat.lt_trichotomy a b with h | h | h
    · simp [h]
    · subst h
      simp [ih]
    · have h3 : ¬ a < b := by omega
      have h4 : a ≠ b := by omega
      simp [h, h3, h4]
/-- What bytealg.Compare reads of a slice. -/
theorem run_bytesOf {w : World} {B : Nat} {A : Option Addr} {bs : List Nat} (cap : Nat) (h : BytesAt w B A bs) : (Extern.Bytes.bytesOf (.slice A bs.length cap)).run Tryz.prog w = .ok (strOf bs) w := by
  cases A with
  | none =>
    have : bs = [] := by
      by_cases h0 : bs = []
      · exact h0
      · obtain ⟨b, o, e, _⟩ := h.2.2 (List.length_pos_iff.2 h0)
        cases e
    subst this
    rfl
  | some a =>
    have hl := Lib.run_loadBytesX (P := Tryz.prog) w (bs.map fun n : Nat => (n : Int)) a .empty (fun j x hj => by
      rw [List.getElem?_map] at hj
      have hjl : j < bs.length := by
        rcases Nat.lt_or_ge j bs.length with h1 | h1
        · exact h1
        · rw [List.getElem?_eq_none h1] at hj; cases hj
      obtain ⟨b, o, e, _, hc⟩ := h.2.2 (by omega)
      cases e
      have e2 : (⟨b, o, none⟩ : Addr).add j = ⟨b, o + j, none⟩ := by unfold Addr.add; split <;> simp_all
      rw [e2, hc j hjl]
      rw [List.getElem?_eq_getElem hjl] at hj
      simp only [Option.map_some, Option.some.injEq] at hj
      rw [← hj]
      unfold byteAt
      simp [List.getD, hjl])
    rw [List.length_map] at hl
    show (Extern.Bytes.loadBytes a bs.length .empty).run Tryz.prog w = _
    rw [hl]
    congr 1
    apply ByteArray.ext
    unfold strOf
    show (#[] : Array UInt8) ++ (Lib.bytesOf (bs.map fun n : Nat => (n : Int))).toArray = (bs.map UInt8.ofNat).toArray
    simp [Lib.bytesOf, Function.comp_def]
theorem run_bcompare {w : World} {B C : Nat} {A A' : Option Addr} {us bs : List Nat} (cap cap' : Nat) (h : BytesAt w B A us) (h' : BytesAt w C A' bs) :
    ∃ r : Int, (Extern.BytealgCompare.compare #[.slice A us.length cap, .slice A' bs.length cap']).run Tryz.prog w = .ok (.int .i64 r) w ∧ (r < 0 ↔ lexLt us bs = true) := by
  refine ⟨Lib.compareBytes (strOf us).data.toList (strOf bs).data.toList, ?_, by rw [strOf_data, strOf_data]; exact cmp_map us bs h.1 h'.1⟩
  change Sem.run Tryz.prog (do pure (goInt (Extern.BytealgCompare.cmp (← Extern.Bytes.bytesOf (.slice A us.length cap)) (← Extern.Bytes.bytesOf (.slice A' bs.length cap'))))) w = _
  simp only [Sem.run_bind, run_bytesOf cap h, run_bytesOf cap' h', Sem.run_pure, Result.andThen]
  rw [Lib.cmp_eq]
  rfl

theorem isnan_go (a : Int) (w : World) : Calls Tryz.prog 236 #[.int .i64 a] w fun e w' => e = .returned (.bool false) ∧ w = w' := by
  have hk : (a != a) = false := by simp
  go_enter Tryz.func236, Tryz.ntmps236
  go_wp2
  go_ret
  exact ⟨rfl, rfl⟩
def cmpI (a b : Int) : Int := if a < b then -1 else if b < a then 1 else 0
theorem cmpi_go (a b : Int) (w : World) : Calls Tryz.prog 200 #[.int .i64 a, .int .i64 b] w fun e w' => e = .returned (.int .i64 (cmpI a b)) ∧ w = w' := by
  go_enter Tryz.func200, Tryz.ntmps200
  go_wp2_with fail
  refine (isnan_go a _).mono ?_
  rintro e w1 ⟨rfl, rfl⟩
  dsimp only
  go_wp2_with fail
  refine (isnan_go b _).mono ?_
  rintro e w1 ⟨rfl, rfl⟩
  dsimp only
  by_cases h1 : a < b
  · have HV := Lib.hid (show cmpI a b = -1 by unfold cmpI; rw [if_pos h1])
    go_wp2
    go_ret
    exact ⟨by rw [HV.out]; rfl, rfl⟩
  · by_cases h2 : b < a
    · have HV := Lib.hid (show cmpI a b = 1 by unfold cmpI; rw [if_neg h1, if_pos h2])
      go_wp2
      go_ret
      exact ⟨by rw [HV.out]; rfl, rfl⟩
    · have HV := Lib.hid (show cmpI a b = 0 by unfold cmpI; rw [if_neg h1, if_neg h2])
      go_wp2
      go_ret
      exact ⟨by rw [HV.out]; rfl, rfl⟩
def orI (a b : Int) : Int := if a = 0 then b else a
theorem or_go (g cap : Nat) (a b : Int) (w : World) (c0 : w.cell? ⟨g, 0, none⟩ = some (.int .i64 a)) (c1 : w.cell? ⟨g, 1, none⟩ = some (.int .i64 b)) :
    Calls Tryz.prog 199 #[.slice (some ⟨g, 0, none⟩) 2 cap] w fun e w' => e = .returned (.int .i64 (orI a b)) ∧ w = w' := by
  by_cases h0 : a = 0
  · subst h0
    have HV := Lib.hid (show orI 0 b = b from if_pos rfl)
    by_cases h1 : b = 0
    · subst h1
      go_enter Tryz.func199, Tryz.ntmps199
      go_wp2
      refine wp_loop_rounds 3 ?_
      rw [rounds_succ]
      go_wp2
      rw [rounds_succ]
      go_wp2
      rw [rounds_succ]
      go_wp2
      go_ret
      exact ⟨by rw [HV.out]; rfl, rfl⟩
    · have h2 : (b != 0) = true := by simpa using h1
      clear h1
      go_enter Tryz.func199, Tryz.ntmps199
      go_wp2
      refine wp_loop_rounds 3 ?_
      rw [rounds_succ]
      go_wp2
      rw [rounds_succ]
      go_wp2
      go_ret
      exact ⟨by rw [HV.out]; rfl, rfl⟩
  · have HV := Lib.hid (show orI a b = a from if_neg h0)
    have h2 : (a != 0) = true := by simpa using h0
    clear h0
    go_enter Tryz.func199, Tryz.ntmps199
    go_wp2
    refine wp_loop_rounds 3 ?_
    rw [rounds_succ]
    go_wp2
    go_ret
    exact ⟨by rw [HV.out]; rfl, rfl⟩
theorem bcmp_go {w : World} {B C : Nat} {A A' : Option Addr} {us bs : List Nat} (cap cap' : Nat) (h : BytesAt w B A us) (h' : BytesAt w C A' bs) :
    Calls Tryz.prog 201 #[.slice A us.length cap, .slice A' bs.length cap'] w fun e w' => (∃ r : Int, e = .returned (.int .i64 r) ∧ (r < 0 ↔ lexLt us bs = true)) ∧ w = w' := by
  obtain ⟨r, hr, h2⟩ := run_bcompare cap cap' h h'
  have HR := Lib.hid hr
  have HE := Lib.hid h2
  clear h h' hr h2
  generalize us.length = n at *
  generalize bs.length = m at *
  go_enter Tryz.func201, Tryz.ntmps201
  go_wp2
  rw [run_callFunc_extern Tryz.func237 (by kernel_rfl) (by kernel_rfl) (by kernel_rfl) (e := Extern.BytealgCompare.compare) (by kernel_rfl), HR.out]
  simp only [Result.andThen]
  rw [Oper.upon_value]
  go_wp2
  go_ret
  exact ⟨⟨r, rfl, HE.out⟩, rfl⟩
theorem cmp_less {us bs : List Nat} {r : Int} (h : r < 0 ↔ lexLt us bs = true) : orI (cmpI us.length bs.length) r < 0 ↔ lessW us bs = true := by
  rcases Nat.lt_trichotomy us.length bs.length with h1 | h1 | h1
  · rw [show cmpI us.length bs.length = -1 by unfold cmpI; rw [if_pos (by omega)]]
    simp [orI, lessW, h1]
  · rw [h1, show cmpI bs.length bs.length = 0 by unfold cmpI; rw [if_neg (by omega), if_neg (by omega)]]
    simp [orI, lessW, h1, h]
  · rw [show cmpI us.length bs.length = 1 by unfold cmpI; rw [if_neg (by omega), if_pos (by omega)]]
    have h2 : ¬ us.length < bs.length := by omega
    have h3 : us.length ≠ bs.length := by omega
    simp [orI, lessW, h2, h3]
set_option maxHeartbeats 1000000 in
theorem compare_go {w : World} {B C : Nat} {A A' : Option Addr} {us bs : List Nat} (cap cap' : Nat) (h : BytesAt w B A us) (h' : BytesAt w C A' bs) :
    Calls Tryz.prog 154 #[.slice A us.length cap, .slice A' bs.length cap'] w fun e w' => (∃ r : Int, e = .returned (.int .i64 r) ∧ (r < 0 ↔ lessW us bs = true)) ∧ Below w.heap.size w w' := by
  have HC := Lib.hid (bcmp_go cap cap' h h')
  have HL := Lib.hid (fun (r : Int) (hr : r < 0 ↔ lexLt us bs = true) => cmp_less hr)
  clear h h'
  generalize hn : us.length = n at *
  generalize hm : bs.length = m at *
  clear hn hm
  go_enter Tryz.func154, Tryz.ntmps154
  go_wp2_with fail
  refine (cmpi_go _ _ _).mono ?_
  rintro e w1 ⟨rfl, rfl⟩
  dsimp only
  generalize cmpI (n : Int) (m : Int) = q at *
  go_wp2_with fail
  refine HC.out.mono ?_
  rintro e w1 ⟨⟨r, rfl, hr⟩, rfl⟩
  have HQ := Lib.hid (HL.out r hr)
  clear hr HC HL
  have hb : Below w.heap.size w (w.alloc (.cells #[.int .i64 q, .int .i64 r] 3)) := (Below.refl _ _).alloc (Nat.le_refl _) _
  have HB := Lib.hid hb
  have HO := Lib.hid (fun cp => or_go w.heap.size cp q r (w.alloc (.cells #[.int .i64 q, .int .i64 r] 3)) ((Blk.new w 3 #[.int .i64 q, .int .i64 r]).cell 0) ((Blk.new w 3 #[.int .i64 q, .int .i64 r]).cell 1))
  clear hb
  dsimp only
  go_wp2_with fail
  refine (HO.out _).mono ?_
  rintro e w1 ⟨rfl, rfl⟩
  dsimp only
  go_wp2
  go_light
  go_ret
  exact ⟨⟨_, rfl, HQ.out⟩, HB.out⟩
/-- The document's Less. -/
theorem rless_go {w : World} {B C : Nat} {A A' : Option Addr} {us bs : List Nat} (cap cap' : Nat) (h : BytesAt w B A us) (h' : BytesAt w C A' bs) :
    Calls Tryz.prog 45 #[.slice A us.length cap, .slice A' bs.length cap'] w fun e w' => e = .returned (.bool (lessW us bs)) ∧ w = w' := by
  by_cases hne : us.length = bs.length
  · have s1 := bytes_strM cap h
    have s2 := bytes_strM cap' h'
    have HV := Lib.hid (show lessW us bs = Op.bytesLess (strOf us).toList (strOf bs).toList by rw [less_str h.1 h'.1]; unfold lessW; rw [hne]; simp)
    have hq : ((us.length : Int) != (bs.length : Int)) = false := by rw [hne]; simp
    clear hne h h'
    go_enter Tryz.func45, Tryz.ntmps45
    go_wp2
    go_light
    go_ret
    exact ⟨by rw [HV.out]; rfl, rfl⟩
  · have HV := Lib.hid (show lessW us bs = decide (us.length < bs.length) by
      unfold lessW
      rw [show (us.length == bs.length) = false by rw [beq_eq_false_iff_ne]; exact hne]
      simp)
    have hq : ((us.length : Int) != (bs.length : Int)) = true := by simpa using (by omega : (us.length : Int) ≠ (bs.length : Int))
    clear hne h h'
    go_enter Tryz.func45, Tryz.ntmps45
    go_wp2
    go_light
    go_ret
    exact ⟨by rw [HV.out]; rfl, rfl⟩

/-! Words in memory, one beside the other. -/
/-- A value that is a slice of bytes, its block of Q. -/
def WordIs (w : World) (Q : Nat → Prop) (v : Value) (bs : List Nat) : Prop := ∃ A cap, v = .slice A bs.length cap ∧ BytesAt w w.heap.size A bs ∧ (0 < bs.length → ∀ a, A = some a → Q a.block)
/-- Values that are slices of bytes. -/
def WordsAre (w : World) (Q : Nat → Prop) : List Value → List (List Nat) → Prop
  | [], [] => True
  | v :: vs, bs :: L => WordIs w Q v bs ∧ WordsAre w Q vs L
  | _, _ => False
theorem WordIs.keep {w w' : World} {Q Q' : Nat → Prop} {v : Value} {bs : List Nat} (hs : w.heap.size ≤ w'.heap.size) (hk : ∀ b, Q b → b < w.heap.size → w'.heap[b]? = w.heap[b]? ∧ Q' b) (h : WordIs w Q v bs) : WordIs w' Q' v bs := by
  obtain ⟨A, cap, hv, hb, hq⟩ := h
  refine ⟨A, cap, hv, ⟨hb.1, hb.2.1, fun hp => ?_⟩, fun hp a ha => ?_⟩
  · obtain ⟨b, o, e, hl, hc⟩ := hb.2.2 hp
    have := (hk b (hq hp _ e) hl).1
    exact ⟨b, o, e, by omega, fun i hi => (World.cell?_of_block this).trans (hc i hi)⟩
  · obtain ⟨b, o, e, hl, hc⟩ := hb.2.2 hp
    rw [ha] at e
    cases e
    exact (hk _ (hq hp _ ha) hl).2
theorem WordsAre.keep {w w' : World} {Q Q' : Nat → Prop} (hs : w.heap.size ≤ w'.heap.size) (hk : ∀ b, Q b → b < w.heap.size → w'.heap[b]? = w.heap[b]? ∧ Q' b) : ∀ {vs : List Value} {L : List (List Nat)}, WordsAre w Q vs L → WordsAre w' Q' vs L
  | [], [], _ => trivial
  | v :: vs, bs :: L, ⟨h, h2⟩ => ⟨h.keep hs hk, h2.keep hs hk⟩
  | [], _ :: _, h => h.elim
  | _ :: _, [], h => h.elim
theorem WordsAre.below {w w' : World} {Q : Nat → Prop} (hb : Below w.heap.size w w') {vs : List Value} {L : List (List Nat)} (h : WordsAre w Q vs L) : WordsAre w' Q vs L := h.keep hb.size fun b hq hl => ⟨hb.block b hl, hq⟩
theorem WordsAre.snoc {w : World} {Q : Nat → Prop} {v : Value} {bs : List Nat} (h : WordIs w Q v bs) : ∀ {vs : List Value} {L : List (List Nat)}, WordsAre w Q vs L → WordsAre w Q (vs ++ [v]) (L ++ [bs])
  | [], [], _ => ⟨h, trivial⟩
  | u :: vs, cs :: L, ⟨h1, h2⟩ => ⟨h1, h2.snoc h⟩
  | [], _ :: _, h => h.elim
  | _ :: _, [], h => h.elim
theorem WordsAre.get {w : World} {Q : Nat → Prop} : ∀ {vs : List Value} {L : List (List Nat)} {i : Nat} {bs : List Nat}, WordsAre w Q vs L → L[i]? = some bs → ∃ A cap, vs[i]? = some (.slice A bs.length cap) ∧ BytesAt w w.heap.size A bs ∧ (0 < bs.length → ∀ a, A = some a → Q a.block)
  | [], [], i, bs, _, h => by simp at h
  | v :: vs, b :: L, 0, bs, ⟨⟨A, cap, hv, h1⟩, h2⟩, h => by
    simp at h
    subst h
    exact ⟨A, cap, by rw [hv]; rfl, h1⟩
  | v :: vs, b :: L, i + 1, bs, ⟨_, h2⟩, h => by
    obtain ⟨A, cap, h3, h4⟩ := h2.get (i := i) (by simpa using h)
    exact ⟨A, cap, by simpa using h3, h4⟩
  | [], _ :: _, _, _, h, _ => h.elim
  | _ :: _, [], _, _, h, _ => h.elim
/-- A word comes back, its block of Q. -/
def WordFrom (Q : Nat → Prop) (bs : List Nat) (w : World) (e : Ending) (w' : World) : Prop := ∃ A k, e = .returned (.slice A bs.length k) ∧ BytesAt w' w'.heap.size A bs ∧ Below w.heap.size w w' ∧ (0 < bs.length → ∀ a, A = some a → Q a.block)
set_option maxHeartbeats 2000000 in
theorem minf_go (g cap : Nat) (vs : List Value) (L : List (List Nat)) (w : World) (h0 : L ≠ []) (hl : L.length ≤ 2000000) (Q : Nat → Prop) (hW : WordsAre w Q vs L) (hc : ∀ j u, vs[j]? = some u → w.cell? ⟨g, j, none⟩ = some u) :
    Calls Tryz.prog 153 #[.slice (some ⟨g, 0, none⟩) L.length cap, .func (.func 154) #[] #[]] w (WordFrom Q (minW L) w) := by
  have hp : 0 < L.length := List.length_pos_iff.2 h0
  obtain ⟨b0, hb0⟩ : ∃ b, L[0]? = some b := ⟨_, List.getElem?_eq_getElem hp⟩
  obtain ⟨A0, k0, hv0, hA0, hq0⟩ := hW.get hb0
  have HQ0 := Lib.hid hq0
  clear hq0
  have c0 := hc 0 _ hv0
  have HW := Lib.hid hW
  have HC := Lib.hid hc
  have HA0 := Lib.hid hA0
  have hgl := World.block_lt_of_cell? w _ c0
  have H1 := Lib.hid (show minW (L.take 1) = b0 by
    cases L with
    | nil => exact absurd rfl h0
    | cons a l => simp at hb0; subst hb0; rfl)
  have hnz : ¬ ((L.length : Int) < 1) := by omega
  clear hW hc h0 hv0 hA0 hb0
  go_enter Tryz.func153, Tryz.ntmps153
  go_wp2
  go_loopw [5, 6] (fun u i wr => ∃ (k : Nat) (A : Option Addr) (cp : Nat), i = .int .i64 (k : Int) ∧ 1 ≤ k ∧ k ≤ L.length ∧ u = .slice A (minW (L.take k)).length cp ∧ Hid (BytesAt wr wr.heap.size A (minW (L.take k))) ∧ Hid (0 < (minW (L.take k)).length → ∀ a, A = some a → Q a.block) ∧ Hid (Below w.heap.size w wr)) (fun _ i _ => L.length - (intOf i).toNat)
  case atStart => exact ⟨1, A0, k0, rfl, Nat.le_refl _, by omega, by rw [H1.out], Lib.hid (by rw [H1.out]; exact HA0.out), Lib.hid (by rw [H1.out]; exact HQ0.out), Lib.hid (Below.refl _ _)⟩
  case round =>
    clear c0 HA0 HQ0 H1 hnz
    obtain ⟨k, A, cp, rfl, hk1, hk, rfl, HB, HQ, HS⟩ := hrel
    by_cases hlt : k < L.length
    · obtain ⟨bs, hbs⟩ : ∃ b, L[k]? = some b := ⟨_, List.getElem?_eq_getElem hlt⟩
      obtain ⟨A', k', hv', hA', hq'⟩ := HW.out.get hbs
      have HQ' := Lib.hid hq'
      clear hq'
      have ck := (HS.out.cell (p := ⟨g, k, none⟩) hgl).trans (HC.out k _ hv')
      have hgr : g < wr.heap.size := Nat.lt_of_lt_of_le hgl HS.out.size
      have HP := Lib.hid (compare_go k' cp ((hA'.below HS.out).more HS.out.size) HB.out)
      have HN := Lib.hid ((hA'.below HS.out).more HS.out.size)
      have HM := Lib.hid (minW_get (by omega) hbs)
      have hdl : (k : Int) < (L.length : Int) := by omega
      clear hbs hv' hA'
      generalize minW (L.take k) = m at *
      generalize hml : m.length = ml at *
      generalize hbl : bs.length = bl at *
      have HML := Lib.hid hml
      have HBL := Lib.hid hbl
      clear hml hbl
      go_wp2_with fail
      refine HP.out.mono ?_
      rintro e w2 ⟨⟨r, rfl, hr⟩, hb2⟩
      have HB2 := Lib.hid ((HB.out.below hb2).more hb2.size)
      have HN2 := Lib.hid ((HN.out.below hb2).more hb2.size)
      have HS2 := Lib.hid (HS.out.trans (hb2.mono HS.out.size))
      have ck2 := (hb2.cell (p := ⟨g, k, none⟩) hgr).trans ck
      have hgr2 : g < w2.heap.size := Nat.lt_of_lt_of_le hgr hb2.size
      clear hb2 ck HP HB HN
      dsimp only
      by_cases hrn : r < 0
      · have HM2 := Lib.hid (show minW (L.take (k + 1)) = bs by rw [HM.out]; unfold stepW; rw [if_pos (hr.1 hrn)])
        clear hr
        go_wp2
        go_light
        go_roundw
        case rel => exact ⟨k + 1, A', k', by go_num, by omega, by omega, by rw [HM2.out, HBL.out], Lib.hid (by rw [HM2.out]; exact HN2.out), Lib.hid (by rw [HM2.out, HBL.out]; exact HQ'.out), HS2⟩
        case measure => simp [intOf]; omega
      · have HM2 := Lib.hid (show minW (L.take (k + 1)) = m by rw [HM.out]; unfold stepW; rw [if_neg (fun h => hrn (hr.2 h))])
        clear hr
        go_wp2
        go_light
        go_roundw
        case rel => exact ⟨k + 1, A, cp, by go_num, by omega, by omega, by rw [HM2.out, HML.out], Lib.hid (by rw [HM2.out]; exact HB2.out), Lib.hid (by rw [HM2.out, HML.out]; exact HQ.out), HS2⟩
        case measure => simp [intOf]; omega
    · have hdl : ¬ (k : Int) < (L.length : Int) := by omega
      obtain rfl : k = L.length := by omega
      rw [List.take_length] at HB HQ ⊢
      go_wp2
      go_light
      go_ret
      exact ⟨_, _, rfl, HB.out, HS.out, HQ.out⟩

/-! Bytes appended. -/
theorem own_bytesat {w : World} {base : Nat} {v : Value} {bs : List Nat} (h : w.ownsRow base 5 1 v bs.length (bs.map (fun n : Nat => Value.int .u8 (n : Int)))) (h256 : ∀ c ∈ bs, c < 256) (hl : bs.length ≤ 140737488355328) :
    ∃ A cap, v = .slice A bs.length cap ∧ BytesAt w w.heap.size A bs ∧ ∀ a, A = some a → base ≤ a.block := by
  rcases h.2 with ⟨rfl, h0⟩ | ⟨g, cap, cur, e, _, _, _⟩
  · have : bs = [] := List.length_eq_zero_iff.1 h0
    subst this
    exact ⟨none, 0, rfl, ⟨(fun c hc => by cases hc), hl, (fun h => absurd h (by decide))⟩, (fun a e => by cases e)⟩
  · subst e
    refine ⟨_, cap, rfl, ⟨h256, hl, fun _ => ⟨g, 0, rfl, (h.lt g rfl).2, fun i hi => ?_⟩⟩, fun a e => by cases e; exact (h.lt g rfl).1⟩
    have := h.cells (g := g) rfl i (.int .u8 ((byteAt bs i : Nat) : Int)) (by
      rw [List.getElem?_map, List.getElem?_eq_getElem hi]
      unfold byteAt
      simp [List.getD, hi])
    have e2 : (⟨g, 0, none⟩ : Addr).add i = ⟨g, 0 + i, none⟩ := by unfold Addr.add; split <;> simp_all
    rw [← e2]
    exact this
theorem append_own_bytes (w : World) (base : Nat) (v : Value) (acc : List Nat) (hown : w.ownsRow base 5 1 v acc.length (acc.map (fun n : Nat => Value.int .u8 (n : Int)))) {N : Nat} {A : Option Addr} (c : Nat) {bs : List Nat} (hA : BytesAt w N A bs) (hs : acc.length + bs.length ≤ 100000000000) (hbase : base ≤ w.heap.size)
    (t ty : TypeId) (ht : Tryz.prog.underlying t = some (.slice 5)) :
    ∃ v' w', (Builtin.append_ #[t, t] ty #[v, .slice A bs.length c]).run Tryz.prog w = .ok v' w' ∧ w'.ownsRow base 5 1 v' (acc ++ bs).length ((acc ++ bs).map (fun n : Nat => Value.int .u8 (n : Int))) ∧ w.grownBy w' v.ownBlock := by
  obtain ⟨i0, hi, hz0, hz1, hz2⟩ := info_parts byte_info
  have h63 : acc.length + bs.length ≤ maxLen := Nat.le_trans hs (by decide)
  have hby : (acc.length + bs.length) * 1 ≤ 140737488355328 := by omega
  cases A with
  | none =>
    have h0 : bs = [] := by
      by_cases h0 : bs = []
      · exact h0
      · obtain ⟨b, o, e, _⟩ := hA.2.2 (List.length_pos_iff.2 h0)
        cases e
    subst h0
    refine ⟨v, w, ?_, by simpa using hown, ⟨rfl, rfl, rfl, Nat.le_refl _, fun _ _ _ => rfl⟩⟩
    rcases hown.2 with ⟨rfl, _⟩ | ⟨g, cap, cur, rfl, _, _, hnc, _⟩
    · simp [Builtin.append_, run_underlying ht, sizeOf, typeInfo, hi, Builtin.lenOf, Builtin.firstCells]
    · simp [Builtin.append_, run_underlying ht, sizeOf, typeInfo, hi, Builtin.lenOf, Builtin.firstCells, hnc, storeCells]
  | some a =>
    have hcells : ∀ j u, (bs.map (fun n : Nat => Value.int .u8 (n : Int)))[j]? = some u → w.cell? (a.add j) = some u := fun j u hj => by
      rw [List.getElem?_map] at hj
      have hjl : j < bs.length := by
        rcases Nat.lt_or_ge j bs.length with h1 | h1
        · exact h1
        · rw [List.getElem?_eq_none h1] at hj; cases hj
      obtain ⟨b, o, e, _, hc⟩ := hA.2.2 (by omega)
      cases e
      have e2 : (⟨b, o, none⟩ : Addr).add j = ⟨b, o + j, none⟩ := by unfold Addr.add; split <;> simp_all
      rw [e2, hc j hjl]
      rw [List.getElem?_eq_getElem hjl] at hj
      simp only [Option.map_some, Option.some.injEq] at hj
      rw [← hj]
      unfold byteAt
      simp [List.getD, hjl]
    obtain ⟨v', w', h1, h2, h3, _⟩ := run_append_own_at (P := Tryz.prog) w base t ty 5 i0 _ 1 1 ht hi hz0 hz1 hz2 rfl (by decide) v acc.length _ hown a bs.length c (bs.map (fun n : Nat => Value.int .u8 (n : Int))) (by simp) hcells (fun u hu => by obtain ⟨_, _, rfl⟩ := List.mem_map.1 hu; rfl) h63 hby hbase
    exact ⟨v', w', h1, by rw [List.length_append, List.map_append]; exact h2, h3⟩
end Go.Proofs.YtfekpkelmliejaaGreatDoor
