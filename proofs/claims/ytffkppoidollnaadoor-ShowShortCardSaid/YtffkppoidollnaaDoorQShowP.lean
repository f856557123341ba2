/-
  What is written is read as it was. No program in sight.
-/
import Derived.Test.YtffkppoidollnaaDoorQShowS
namespace Go.Proofs.YtffkppoidollnaaDoor
open Go.RowKit
set_option linter.unusedSimpArgs false
set_option linter.unusedVariables false
set_option maxRecDepth 100000

theorem mask_zero {s : Nat} (h : ∀ i, i < 4 → word s.testBit i = 0) : maskOf s.testBit = 0 := by
  refine Nat.eq_of_testBit_eq fun j => ?_
  unfold maskOf
  rw [testBit_ofBits, Nat.zero_testBit]
  by_cases hj : j < 256
  · have h1 := testBit_word s.testBit (j / 64) (j % 64)
    rw [h _ (by omega), Nat.zero_testBit, show 64 * (j / 64) + j % 64 = j by omega] at h1
    have h2 : decide (j % 64 < 64) = true := by simp; omega
    rw [h2, Bool.true_and] at h1
    rw [← h1, Bool.and_false]
  · simp [hj]
theorem alone_zero {y : Nd} (h : aloneN y = true) (h3 : y.kind ≠ 3) : maskOf y.set.testBit = 0 := by
  unfold aloneN aloneV at h
  rw [if_neg h3] at h
  split at h
  · cases h
  · rename_i hz
    refine mask_zero fun i hi => ?_
    match i, hi with
    | 0, _ => omega
    | 1, _ => omega
    | 2, _ => omega
    | 3, _ => omega
theorem alone_more {y : Nd} (h : aloneN y = true) : (y.kind ≠ 9 → y.lo = 0 ∧ y.hi = 0) ∧ (y.kind = 4 ∨ y.kind = 5 → 2 ≤ y.kids.len) := by
  unfold aloneN aloneV at h
  by_cases h3 : y.kind = 3
  · rw [if_pos h3] at h
    simp at h
    omega
  rw [if_neg h3] at h
  split at h
  · cases h
  by_cases h9 : y.kind = 9
  · omega
  · rw [if_neg h9] at h
    simp only [Bool.and_eq_true, decide_eq_true_eq] at h
    refine ⟨fun _ => ⟨h.1, h.2.1⟩, fun hk => ?_⟩
    have e : arityS y.kind = 2 := by unfold arityS; rw [if_neg (by omega), if_pos hk]
    rw [e] at h
    simpa using h.2.2

/-! A tree as a text can say it. -/
def saidK (k : Int) (s : Nat) (lo hi : Int) (l : List Nd) : Nd := if k = 1 then leafN 0 else ⟨k, maskOf s.testBit, Trees.of l, lo, hi⟩
def Trees.said : Trees → List Nd
  | .nil => []
  | .cons k s ks lo hi r => saidK k s lo hi ks.said :: r.said
def Nd.said (x : Nd) : Nd := saidK x.kind x.set x.lo x.hi x.kids.said
theorem Trees.said_list : ∀ F : Trees, F.said = F.list.map Nd.said
  | .nil => rfl
  | .cons k s ks lo hi r => by rw [Trees.said, Trees.list, List.map_cons, Trees.said_list r]; rfl

/-! Reading, step by step. -/
def HeadOk (l : List Lex) : Prop := ∃ y L, l = y :: L ∧ isPost y.kind = false
def StopL (R : List Lex) : Prop := R = [] ∨ ∃ c R', R = c :: R' ∧ (c.kind = 3 ∨ c.kind = 4)
def EndL (R : List Lex) : Prop := R = [] ∨ ∃ c R', R = c :: R' ∧ c.kind = 3
theorem EndL.stop {R : List Lex} (h : EndL R) : StopL R := by
  rcases h with h | ⟨c, R', h, hc⟩
  · exact .inl h
  · exact .inr ⟨c, R', h, .inl hc⟩
theorem postsG_endR {z : Nd} {R : List Lex} (h : R = [] ∨ ∃ y L, R = y :: L ∧ isPost y.kind = false) : postsG z R = (z, R) := by
  rcases h with rfl | ⟨y, L, rfl, hy⟩
  · rfl
  · unfold postsG
    rw [if_neg (by rw [hy]; decide)]
theorem StopL.noPost {R : List Lex} (h : StopL R) : R = [] ∨ ∃ y L, R = y :: L ∧ isPost y.kind = false := by
  rcases h with h | ⟨c, R', h, hc⟩
  · exact .inl h
  · refine .inr ⟨c, R', h, ?_⟩
    cases hp : isPost c.kind
    · rfl
    · have := (isPost_iff _).1 hp
      omega
def ReadsAtom (z : Nd) (l : List Lex) : Prop := ∀ n op R r, atomG n op (l ++ R) = .ok r → ∃ y T, r = (some y, T) ∧ postsG y T = postsG z.said R
def ReadsPart (z : Nd) (l : List Lex) : Prop := ∀ n op R ps T, StopL R → piecesG n op [] (l ++ R) = .ok (ps, T) → partN ps = z.said ∧ T = R
def ReadsAlt (z : Nd) : Prop := ∀ n op R r, EndL R → altG n op [] (z.write ++ R) = .ok r → r = (z.said, R)
theorem atomG_fuel0 (op : List Int) (L : List Lex) : atomG 0 op L = .error (0, 0) := by rw [atomG]
theorem piecesG_fuel0 (op : List Int) (acc : List Nd) (L : List Lex) : piecesG 0 op acc L = .error (0, 0) := by rw [piecesG]
theorem altG_fuel0 (op : List Int) (acc : List Nd) (L : List Lex) : altG 0 op acc L = .error (0, 0) := by rw [altG]
/-- Where a part ends. -/
theorem pieces_stop {n : Nat} {op : List Int} {acc : List Nd} {R : List Lex} {ps : List Nd} {T : List Lex} (h : StopL R) (hp : piecesG n op acc R = .ok (ps, T)) : ps = acc ∧ T = R := by
  cases n with
  | zero => rw [piecesG_fuel0] at hp; cases hp
  | succ n =>
    cases ha : atomG n op R with
    | error e => rw [piecesG_bad ha] at hp; cases hp
    | ok r =>
      have hr : r = (none, R) := by
        cases n with
        | zero => rw [atomG_fuel0] at ha; cases ha
        | succ n =>
          rcases h with rfl | ⟨c, R', rfl, hc⟩
          · rw [atomG_nil] at ha; cases ha; rfl
          · have hnp : isPost c.kind = false := by
              cases hp : isPost c.kind
              · rfl
              · have := (isPost_iff _).1 hp; omega
            by_cases h4 : c.kind = 3 ∧ op.length = 0
            · rw [atomG_lone h4.1 h4.2] at ha; cases ha
            · rw [atomG_stop (by omega) (by omega) hnp h4] at ha; cases ha; rfl
      subst hr
      rw [piecesG_end ha] at hp
      cases hp
      exact ⟨rfl, rfl⟩
/-- One piece more. -/
theorem pieces_atom {z : Nd} {l : List Lex} (h : ReadsAtom z l) {n : Nat} {op : List Int} {acc : List Nd} {R : List Lex} {r : List Nd × List Lex} (hR : R = [] ∨ ∃ y L, R = y :: L ∧ isPost y.kind = false) (hp : piecesG n op acc (l ++ R) = .ok r) : ∃ m, piecesG m op (acc ++ [z.said]) R = .ok r := by
  cases n with
  | zero => rw [piecesG_fuel0] at hp; cases hp
  | succ n =>
    cases ha : atomG n op (l ++ R) with
    | error e => rw [piecesG_bad ha] at hp; cases hp
    | ok q =>
      obtain ⟨y, T, rfl, hy⟩ := h n op R q ha
      rw [piecesG_go ha, hy, postsG_endR hR] at hp
      exact ⟨n, hp⟩
theorem part_atom {z : Nd} {l : List Lex} (h : ReadsAtom z l) : ReadsPart z l := fun n op R ps T hR hp => by
  obtain ⟨m, hm⟩ := pieces_atom h hR.noPost hp
  obtain ⟨rfl, rfl⟩ := pieces_stop hR hm
  exact ⟨rfl, rfl⟩
theorem alt_part {z : Nd} (h : ReadsPart z z.write) : ReadsAlt z := fun n op R r hR hp => by
  cases n with
  | zero => rw [altG_fuel0] at hp; cases hp
  | succ n =>
    cases ha : piecesG n op [] (z.write ++ R) with
    | error e => rw [altG_bad ha] at hp; cases hp
    | ok q =>
      obtain ⟨ps, T⟩ := q
      obtain ⟨h1, rfl⟩ := h n op R ps T hR.stop ha
      rw [altG_ok ha, h1] at hp
      rcases hR with rfl | ⟨c, R', rfl, hc⟩
      · rw [tailG_nil] at hp; cases hp; rfl
      · rw [tailG_stop (by omega)] at hp; cases hp; rfl
theorem atom_brackets {z : Nd} (h : ReadsAlt z) : ReadsAtom z (lexK 2 :: (z.write ++ [lexK 3])) := fun n op R r ha => by
  cases n with
  | zero => rw [atomG_fuel0] at ha; cases ha
  | succ n =>
    rw [List.cons_append, List.append_assoc] at ha
    by_cases hd : op.length = 64
    · rw [atomG_deep rfl hd] at ha; cases ha
    cases hq : altG n ((lexK 2).place :: op) [] (z.write ++ ([lexK 3] ++ R)) with
    | error e => rw [atomG_in rfl hd hq] at ha; cases ha
    | ok q =>
      have := h n _ ([lexK 3] ++ R) q (.inr ⟨lexK 3, R, rfl, rfl⟩) hq
      subst this
      rw [atomG_close rfl hd hq rfl] at ha
      cases ha
      exact ⟨_, _, rfl, rfl⟩
theorem atom_postR {x z : Nd} {l : List Lex} {y : Lex} (h : ReadsAtom z l) (hy : isPost y.kind = true) (hx : x.said = postN y z.said) : ReadsAtom x (l ++ [y]) := fun n op R r ha => by
  rw [List.append_assoc] at ha
  obtain ⟨u, T, rfl, hu⟩ := h n op ([y] ++ R) r ha
  refine ⟨u, T, rfl, ?_⟩
  rw [hu, hx]
  show postsG z.said (y :: R) = _
  conv => lhs; unfold postsG
  rw [if_pos hy]
/-- What is known of a node that was read. -/
structure Reads (z : Nd) : Prop where
  alt : ReadsAlt z
  part : z.kind ≠ 5 → ReadsPart z z.write
  atom : z.kind ≠ 2 → z.kind ≠ 4 → z.kind ≠ 5 → ReadsAtom z z.write
  head : z.kind ≠ 2 → z.kind ≠ 4 → z.kind ≠ 5 → HeadOk z.write
theorem brS_no {p k : Int} (h : brS p k = false) : k ≠ 5 ∧ (p = 5 ∨ k ≠ 4 ∧ k ≠ 2) := by
  unfold brS at h
  simp at h
  refine ⟨h.1, ?_⟩
  by_cases hp : p = 5
  · exact .inl hp
  · exact .inr (h.2 hp)
theorem kid_atom {p : Int} {z : Nd} (hz : Reads z) (h : p ≠ 5 ∨ z.kind = 5) : ReadsAtom z (kidS p (z.kind, z.write)) ∧ HeadOk (kidS p (z.kind, z.write)) := by
  unfold kidS
  cases hb : brS p z.kind with
  | true => exact ⟨by rw [if_pos rfl]; exact atom_brackets hz.alt, by rw [if_pos rfl]; exact ⟨_, _, rfl, rfl⟩⟩
  | false =>
    have := brS_no hb
    rw [if_neg (by decide)]
    have h2 : z.kind ≠ 2 ∧ z.kind ≠ 4 ∧ z.kind ≠ 5 := by omega
    exact ⟨hz.atom h2.1 h2.2.1 h2.2.2, hz.head h2.1 h2.2.1 h2.2.2⟩
theorem kid_part {z : Nd} (hz : Reads z) : ReadsPart z (kidS 5 (z.kind, z.write)) := by
  by_cases h : z.kind = 5
  · exact part_atom (kid_atom hz (.inr h)).1
  · unfold kidS
    rw [if_neg (by simp only; unfold brS; simp [h])]
    exact hz.part h
theorem head_cons {l R : List Lex} (h : HeadOk l) : l ++ R = [] ∨ ∃ y L, l ++ R = y :: L ∧ isPost y.kind = false := by
  obtain ⟨y, L, rfl, hy⟩ := h
  exact .inr ⟨y, L ++ R, rfl, hy⟩
/-- Pieces, one behind the other. -/
theorem cat_reads : ∀ (zs : List Nd), (∀ z ∈ zs, Reads z) → ∀ n op acc R ps T, StopL R → piecesG n op acc (((zs.map fun z => (z.kind, z.write)).map (kidS 4)).flatten ++ R) = .ok (ps, T) → ps = acc ++ zs.map Nd.said ∧ T = R
  | [], _, n, op, acc, R, ps, T, hR, hp => by
    obtain ⟨rfl, rfl⟩ := pieces_stop hR hp
    simp
  | z :: zs, h, n, op, acc, R, ps, T, hR, hp => by
    rw [List.map_cons, List.map_cons, List.flatten_cons, List.append_assoc] at hp
    have hnext : ((zs.map fun z => (z.kind, z.write)).map (kidS 4)).flatten ++ R = [] ∨ ∃ y L, ((zs.map fun z => (z.kind, z.write)).map (kidS 4)).flatten ++ R = y :: L ∧ isPost y.kind = false := by
      cases zs with
      | nil => exact hR.noPost
      | cons u us =>
        rw [List.map_cons, List.map_cons, List.flatten_cons, List.append_assoc]
        exact head_cons (kid_atom (p := 4) (h u (by simp)) (.inl (by decide))).2
    obtain ⟨m, hm⟩ := pieces_atom (kid_atom (p := 4) (h z (by simp)) (.inl (by decide))).1 hnext hp
    obtain ⟨h1, h2⟩ := cat_reads zs (fun y hy => h y (by simp [hy])) m op _ R ps T hR hm
    exact ⟨by rw [h1]; simp, h2⟩
/-- Parts with bars between. -/
theorem bars_reads : ∀ (zs : List Nd) (z : Nd), Reads z → (∀ y ∈ zs, Reads y) → ∀ n op acc R r, EndL R → altG n op acc (kidS 5 (z.kind, z.write) ++ ((((zs.map fun z => (z.kind, z.write)).map (kidS 5)).flatMap fun x => lexK 4 :: x) ++ R)) = .ok r → r = (flatN 5 (acc ++ (z :: zs).map Nd.said), R)
  | [], z, hz, _, n, op, acc, R, r, hR, hp => by
    cases n with
    | zero => rw [altG_fuel0] at hp; cases hp
    | succ n =>
      simp only [List.map_nil, List.flatMap_nil, List.nil_append] at hp
      cases ha : piecesG n op [] (kidS 5 (z.kind, z.write) ++ R) with
      | error e => rw [altG_bad ha] at hp; cases hp
      | ok q =>
        obtain ⟨ps, T⟩ := q
        obtain ⟨h1, rfl⟩ := kid_part hz n op R ps T hR.stop ha
        rw [altG_ok ha, h1] at hp
        rcases hR with rfl | ⟨c, R', rfl, hc⟩
        · rw [tailG_nil] at hp; cases hp; rfl
        · rw [tailG_stop (by omega)] at hp; cases hp; rfl
  | u :: us, z, hz, hus, n, op, acc, R, r, hR, hp => by
    cases n with
    | zero => rw [altG_fuel0] at hp; cases hp
    | succ n =>
      rw [List.map_cons, List.map_cons, List.flatMap_cons, List.append_assoc, List.cons_append] at hp
      generalize hW : kidS 5 (u.kind, u.write) ++ ((((us.map fun z => (z.kind, z.write)).map (kidS 5)).flatMap fun x => lexK 4 :: x) ++ R) = W at *
      cases ha : piecesG n op [] (kidS 5 (z.kind, z.write) ++ (lexK 4 :: W)) with
      | error e => rw [altG_bad ha] at hp; cases hp
      | ok q =>
        obtain ⟨ps, T⟩ := q
        obtain ⟨h1, rfl⟩ := kid_part hz n op (lexK 4 :: W) ps T (.inr ⟨_, _, rfl, .inr rfl⟩) ha
        rw [altG_ok ha, h1, tailG_bar rfl, ← hW] at hp
        have := bars_reads us u (hus u (by simp)) (fun y hy => hus y (by simp [hy])) n op _ R r hR hp
        rw [this]
        simp
theorem flatN_two (k : Int) {l : List Nd} (h : 2 ≤ l.length) : flatN k l = ⟨k, 0, Trees.of l, 0, 0⟩ := by
  match l, h with
  | a :: b :: l, _ => rfl
theorem partN_two {l : List Nd} (h : 2 ≤ l.length) : partN l = ⟨4, 0, Trees.of l, 0, 0⟩ := by
  match l, h with
  | a :: b :: l, _ => rfl
theorem nil_of_len {F : Trees} (h : F.len = 0) : F = .nil := by
  cases F with
  | nil => rfl
  | cons k s ks lo hi r => simp [Trees.len] at h
theorem said_two {x : Nd} (h : aloneN x = true) (hk : x.kind = 4 ∨ x.kind = 5) : x.said = ⟨x.kind, 0, Trees.of x.kids.said, 0, 0⟩ ∧ 2 ≤ x.kids.said.length := by
  have h1 := alone_more h
  have h2 := h1.1 (by omega)
  refine ⟨?_, by rw [Trees.said_list, List.length_map, Trees.len_list]; exact h1.2 hk⟩
  unfold Nd.said saidK
  rw [if_neg (by omega), alone_zero h (by omega), h2.1, h2.2]
theorem one_kid {x : Nd} (h : x.kids.len = 1) : ∃ z, x.kids.list = [z] ∧ x.kids.list[0]? = some z := by
  have : x.kids.list.length = 1 := by rw [Trees.len_list]; exact h
  obtain ⟨z, hz⟩ := List.length_eq_one_iff.1 this
  exact ⟨z, hz, by rw [hz]; rfl⟩
theorem reads_node (x : Nd) (ha : aloneN x = true) (hK : ∀ z ∈ x.kids.list, Reads z) : Reads x := by
  obtain ⟨a1, a9, a0, ak1, ak9⟩ := aloneN_kids ha
  have am := alone_more ha
  by_cases k13 : x.kind = 1 ∨ x.kind = 3
  · have hw := Nd.write_leaf k13
    have hat : ReadsAtom x x.write := fun n op R r h => by
      rw [hw] at h
      cases n with
      | zero => rw [atomG_fuel0] at h; cases h
      | succ n =>
        rw [List.singleton_append, atomG_set rfl] at h
        cases h
        refine ⟨_, _, rfl, ?_⟩
        have hs : x.said = leafN (maskOf x.set.testBit) := by
          have hn := nil_of_len (a0 (by omega))
          have h2 := am.1 (by omega)
          unfold Nd.said saidK
          split
          · rw [alone_zero ha (by omega)]
          · rw [hn, h2.1, h2.2]
            unfold leafN
            rw [show x.kind = 3 by omega]
            rfl
        rw [hs]
    exact ⟨alt_part (part_atom hat), fun _ => part_atom hat, fun _ _ _ => hat, fun _ _ _ => ⟨_, _, hw, rfl⟩⟩
  by_cases k2 : x.kind = 2
  · have hw := Nd.write_empty k2
    have hpa : ReadsPart x x.write := fun n op R ps T hR h => by
      rw [hw, List.nil_append] at h
      obtain ⟨rfl, rfl⟩ := pieces_stop hR h
      refine ⟨?_, rfl⟩
      have hn := nil_of_len (a0 (by omega))
      have h2 := am.1 (by omega)
      unfold Nd.said saidK
      rw [if_neg (by omega), alone_zero ha (by omega), hn, h2.1, h2.2, k2]
      rfl
    exact ⟨alt_part hpa, fun _ => hpa, fun h => absurd k2 h, fun h => absurd k2 h⟩
  by_cases k4 : x.kind = 4
  · have hw := Nd.write_cat k4
    obtain ⟨hs, hl⟩ := said_two ha (.inl k4)
    have hpa : ReadsPart x x.write := fun n op R ps T hR h => by
      rw [hw, Trees.writes_list] at h
      obtain ⟨h1, rfl⟩ := cat_reads x.kids.list hK n op [] R ps T hR h
      refine ⟨?_, rfl⟩
      rw [List.nil_append, ← Trees.said_list] at h1
      rw [h1, hs, partN_two hl, k4]
    exact ⟨alt_part hpa, fun _ => hpa, fun _ h => absurd k4 h, fun _ h => absurd k4 h⟩
  by_cases k5 : x.kind = 5
  · have hw := Nd.write_alt k5
    obtain ⟨hs, hl⟩ := said_two ha (.inr k5)
    have hpa : ReadsAlt x := fun n op R r hR h => by
      rw [hw, Trees.writes_list] at h
      cases hL : x.kids.list with
      | nil => rw [Trees.said_list, hL] at hl; simp at hl
      | cons z zs =>
        rw [hL] at h hK
        unfold barsS at h
        simp only [List.map_cons, List.flatMap_cons, List.cons_append, List.drop_succ_cons, List.drop_zero] at h
        rw [List.append_assoc] at h
        have := bars_reads zs z (hK z (by simp)) (fun y hy => hK y (by simp [hy])) n op [] R r hR h
        rw [this, List.nil_append, ← hL, ← Trees.said_list, hs, flatN_two 5 hl, k5]
    exact ⟨hpa, fun h => absurd k5 h, fun _ _ h => absurd k5 h, fun _ _ h => absurd k5 h⟩
  · obtain ⟨z, hz1, hz⟩ := one_kid (a1 (by omega) ak9)
    have hrz := hK z (List.mem_of_getElem? hz)
    obtain ⟨hka, hkh⟩ := kid_atom (p := x.kind) hrz (.inl k5)
    have hsk : x.kids.said = [z.said] := by rw [Trees.said_list, hz1]; rfl
    have hs0 : x.said = ⟨x.kind, 0, Trees.of [z.said], x.lo, x.hi⟩ := by
      show saidK x.kind x.set x.lo x.hi x.kids.said = _
      unfold saidK
      rw [if_neg (by omega), alone_zero ha (by omega), hsk]
    have hhead : ∀ y, HeadOk (kidS x.kind (z.kind, z.write) ++ [y]) := fun y => by
      obtain ⟨u, L, e, hu⟩ := hkh
      exact ⟨u, L ++ [y], by rw [e]; rfl, hu⟩
    have hat : ReadsAtom x x.write ∧ HeadOk x.write := by
      by_cases k9 : x.kind = 9
      · rw [Nd.write_rep k9, Trees.writes_head hz, ← k9]
        refine ⟨atom_postR hka rfl ?_, hhead _⟩
        rw [hs0, k9]
        rfl
      · have hlh := am.1 k9
        rw [Nd.write_post (by omega), Trees.writes_head hz]
        refine ⟨atom_postR hka ?_ ?_, hhead _⟩
        · rw [isPost_iff]
          show 5 ≤ x.kind - 1 ∧ x.kind - 1 ≤ 8
          omega
        · rw [hs0, hlh.1, hlh.2]
          unfold postN
          rw [if_neg (show ¬ (lexK (x.kind - 1)).kind = 8 from by show ¬ x.kind - 1 = 8; omega)]
          show _ = Nd.mk (x.kind - 1 + 1) _ _ _ _
          rw [Int.sub_add_cancel]
    exact ⟨alt_part (part_atom hat.1), fun _ => part_atom hat.1, fun _ _ _ => hat.1, fun _ _ _ => hat.2⟩
theorem reads_all : ∀ (F : Trees), Okays F → ∀ z ∈ F.list, Reads z
  | .nil, _, z, hz => by cases hz
  | .cons k s ks lo hi r, ho, z, hz => by
    rw [Trees.list] at hz
    rcases List.mem_cons.1 hz with rfl | hz
    · exact reads_node ⟨k, s, ks, lo, hi⟩ (ho _ (by simp [Trees.nodes])) (reads_all ks (fun y hy => ho y (by simp [Trees.nodes, hy])))
    · exact reads_all r (fun y hy => ho y (by simp [Trees.nodes, hy])) z hz
/-- The tree of a tree's lexemes. -/
theorem read_write {x z : Nd} (h : rightT x = true) (hr : lexemesS x.write = .ok z) : z = x.said := by
  obtain ⟨h1, h2⟩ := okays_kids h
  have hx := reads_node x h1 (reads_all _ h2)
  unfold lexemesS at hr
  split at hr
  · cases hr
  split at hr
  · cases hr
  split at hr
  · cases hr
  · rename_i u T ha
    cases hr
    have := hx.alt _ [] [] (z, T) (.inl rfl) (by rw [List.append_nil]; exact ha)
    exact (Prod.mk.inj this).1

/-! Places tell errors alone. -/
def keyL (y : Lex) : Int × Nat × Int × Int := (y.kind, maskOf y.set, y.lo, y.hi)
theorem keyL_kind {y y' : Lex} (h : keyL y' = keyL y) : y'.kind = y.kind := congrArg Prod.fst h
theorem map_cons_key {y : Lex} {L L' : List Lex} (h : L'.map keyL = (y :: L).map keyL) : ∃ y' M, L' = y' :: M ∧ keyL y' = keyL y ∧ M.map keyL = L.map keyL := by
  cases L' with
  | nil => cases h
  | cons y' M =>
    simp only [List.map_cons, List.cons.injEq] at h
    exact ⟨y', M, rfl, h.1, h.2⟩
theorem postN_key {y y' : Lex} (h : keyL y' = keyL y) (x : Nd) : postN y' x = postN y x := by
  unfold keyL at h
  simp only [Prod.mk.injEq] at h
  unfold postN
  rw [h.1, h.2.2.1, h.2.2.2]
theorem postsG_key : ∀ (L L' : List Lex) (x : Nd), L'.map keyL = L.map keyL → (postsG x L').1 = (postsG x L).1 ∧ (postsG x L').2.map keyL = (postsG x L).2.map keyL
  | [], L', x, h => by
    have : L' = [] := by simpa using h
    subst this
    exact ⟨rfl, rfl⟩
  | y :: L, L', x, h => by
    obtain ⟨y', M, rfl, hy, hM⟩ := map_cons_key h
    unfold postsG
    rw [keyL_kind hy]
    split
    · rw [postN_key hy]
      exact postsG_key L M _ hM
    · exact ⟨rfl, h⟩
theorem readG_key (n : Nat) : (∀ op op' acc L L' x R, op'.length = op.length → L'.map keyL = L.map keyL → altG n op acc L = .ok (x, R) → ∃ R', R'.map keyL = R.map keyL ∧ altG n op' acc L' = .ok (x, R')) ∧
    (∀ op op' acc L L' ps R, op'.length = op.length → L'.map keyL = L.map keyL → piecesG n op acc L = .ok (ps, R) → ∃ R', R'.map keyL = R.map keyL ∧ piecesG n op' acc L' = .ok (ps, R')) ∧
    (∀ op op' L L' x R, op'.length = op.length → L'.map keyL = L.map keyL → atomG n op L = .ok (x, R) → ∃ R', R'.map keyL = R.map keyL ∧ atomG n op' L' = .ok (x, R')) := by
  induction n with
  | zero => exact ⟨fun _ _ _ _ _ _ _ _ _ h => (by rw [altG] at h; cases h), fun _ _ _ _ _ _ _ _ _ h => (by rw [piecesG] at h; cases h), fun _ _ _ _ _ _ _ _ h => (by rw [atomG] at h; cases h)⟩
  | succ n ih =>
    obtain ⟨ia, ip, it⟩ := ih
    refine ⟨fun op op' acc L L' x R ho hL h => ?_, fun op op' acc L L' ps R ho hL h => ?_, fun op op' L L' x R ho hL h => ?_⟩
    · cases hp : piecesG n op [] L with
      | error e => rw [altG_bad hp] at h; cases h
      | ok r =>
        obtain ⟨ps, R1⟩ := r
        obtain ⟨R1', hR1, hp'⟩ := ip op op' [] L L' ps R1 ho hL hp
        rw [altG_ok hp] at h
        rw [altG_ok hp']
        cases R1 with
        | nil =>
          have : R1' = [] := by simpa using hR1
          subst this
          exact ⟨[], by rw [tailG_nil] at h; cases h; rfl, by rw [tailG_nil] at h ⊢; cases h; rfl⟩
        | cons c R' =>
          obtain ⟨c', M, rfl, hc, hM⟩ := map_cons_key hR1
          by_cases h4 : c.kind = 4
          · rw [tailG_bar h4] at h
            rw [tailG_bar (by rw [keyL_kind hc]; exact h4)]
            exact ia op op' _ _ _ x R ho hM h
          · rw [tailG_stop h4] at h
            rw [tailG_stop (by rw [keyL_kind hc]; exact h4)]
            cases h
            exact ⟨_, hR1, rfl⟩
    · cases hp : atomG n op L with
      | error e => rw [piecesG_bad hp] at h; cases h
      | ok r =>
        obtain ⟨x, R1⟩ := r
        obtain ⟨R1', hR1, hp'⟩ := it op op' L L' x R1 ho hL hp
        cases x with
        | none =>
          rw [piecesG_end hp] at h
          rw [piecesG_end hp']
          cases h
          exact ⟨_, hR1, rfl⟩
        | some x =>
          rw [piecesG_go hp] at h
          rw [piecesG_go hp']
          obtain ⟨h1, h2⟩ := postsG_key R1 R1' x hR1
          rw [h1]
          exact ip op op' _ _ _ ps R ho h2 h
    · cases L with
      | nil =>
        have : L' = [] := by simpa using hL
        subst this
        rw [atomG_nil] at h ⊢
        cases h
        exact ⟨[], rfl, rfl⟩
      | cons y L =>
        obtain ⟨y', M, rfl, hy, hM⟩ := map_cons_key hL
        have hk := keyL_kind hy
        by_cases k1 : y.kind = 1
        · rw [atomG_set k1] at h
          rw [atomG_set (by omega)]
          cases h
          have : maskOf y'.set = maskOf y.set := by
            unfold keyL at hy
            simp only [Prod.mk.injEq] at hy
            exact hy.2.1
          exact ⟨M, hM, by rw [this]⟩
        by_cases k2 : y.kind = 2
        · by_cases hd : op.length = 64
          · rw [atomG_deep k2 hd] at h; cases h
          cases hq : altG n (y.place :: op) [] L with
          | error e => rw [atomG_in k2 hd hq] at h; cases h
          | ok q =>
            obtain ⟨u, T⟩ := q
            obtain ⟨T', hT, hq'⟩ := ia (y.place :: op) (y'.place :: op') [] L M u T (by simp [ho]) hM hq
            cases T with
            | nil => rw [atomG_open k2 hd hq (fun c R' e => by cases e)] at h; cases h
            | cons c T =>
              obtain ⟨c', T2, rfl, hc, hT2⟩ := map_cons_key hT
              by_cases h3 : c.kind = 3
              · rw [atomG_close k2 hd hq h3] at h
                cases h
                exact ⟨T2, hT2, atomG_close (by omega) (by omega) hq' (by rw [keyL_kind hc]; exact h3)⟩
              · rw [atomG_open k2 hd hq (fun c R' e => by cases e; exact h3)] at h; cases h
        cases hpo : isPost y.kind with
        | true => rw [atomG_post hpo] at h; cases h
        | false =>
          by_cases h4 : y.kind = 3 ∧ op.length = 0
          · rw [atomG_lone h4.1 h4.2] at h; cases h
          · rw [atomG_stop k1 k2 hpo h4] at h
            cases h
            exact ⟨_, hL, atomG_stop (by omega) (by omega) (by rw [hk]; exact hpo) (by omega)⟩
theorem lexemesS_key {L L' : List Lex} {x : Nd} (h : L'.map keyL = L.map keyL) (hr : L'.all rightS = true) (hx : lexemesS L = .ok x) : lexemesS L' = .ok x := by
  have hl : L'.length = L.length := by have := congrArg List.length h; simpa using this
  unfold lexemesS at hx
  split at hx
  · cases hx
  split at hx
  · cases hx
  rename_i h1 h2
  have hok : lexemesS L' = match altG (3 * L'.length + 3) [] [] L' with
      | .error e => .error e
      | .ok (x, _) => .ok x := by
    unfold lexemesS
    rw [if_neg (by rw [hr]; decide), dif_neg (by omega)]
    rfl
  rw [hok]
  split at hx
  · cases hx
  · rename_i u T ha
    cases hx
    obtain ⟨T', _, hT⟩ := (readG_key _).1 [] [] [] L L' x T rfl h ha
    rw [hl, hT]
end Go.Proofs.YtffkppoidollnaaDoor
