/- Texts of the claim. -/
import Derived.Test.YtofbfafnpdaejaaGreatDoorLZ03
import Derived.Test.YtofbfafnpdaejaaGreatDoorLZ04
namespace Go.Proofs.YtofbfafnpdaejaaGreatDoor
open Go.RowKit
set_option linter.unusedSimpArgs false
set_option linter.unusedVariables false
set_option maxRecDepth 100000
set_option maxHeartbeats 8000000
def lexK (k : Int) : Lex := ⟨k, 0, noSet, 0, 0⟩
def brS (p k : Int) : Bool := decide (k = 5) || (decide (p ≠ 5) && (decide (k = 4) || decide (k = 2)))
def kidS (p : Int) (q : Int × List Lex) : List Lex := if brS p q.1 = true then lexK 2 :: (q.2 ++ [lexK 3]) else q.2
def barsS (l : List (List Lex)) : List Lex := (l.flatMap fun x => lexK 4 :: x).drop 1
theorem barsS_snoc (l : List (List Lex)) (x : List Lex) : barsS (l ++ [x]) = if l.length = 0 then x else barsS l ++ lexK 4 :: x := by
 unfold barsS
 cases l with
 | nil => simp
 | cons y l => simp
def writeK (k : Int) (s : Nat) (lo hi : Int) (ks : List (Int × List Lex)) : List Lex :=
 if k = 1 ∨ k = 3 then [⟨1, 0, s.testBit, 0, 0⟩]
 else if k = 4 then (ks.map (kidS 4)).flatten
 else if k = 5 then barsS (ks.map (kidS 5))
 else if 6 ≤ k ∧ k ≤ 8 then kidS k (ks.headD (0, [])) ++ [lexK (k - 1)]
 else if k = 9 then kidS k (ks.headD (0, [])) ++ [⟨8, 0, noSet, lo, hi⟩]
 else []
def Trees.writes : Trees → List (Int × List Lex)
 | .nil => []
 | .cons k s ks lo hi r => (k, writeK k s lo hi ks.writes) :: r.writes
def Nd.write (x : Nd) : List Lex := writeK x.kind x.set x.lo x.hi x.kids.writes
theorem Trees.writes_list : ∀ F : Trees, F.writes = F.list.map (fun z => (z.kind, z.write))
 | .nil => rfl
 | .cons k s ks lo hi r => by rw [Trees.writes, Trees.list, List.map_cons, Trees.writes_list r]; rfl
theorem Trees.writes_len (F : Trees) : F.writes.length = F.len := by rw [F.writes_list, List.length_map, F.len_list]
theorem Trees.writes_get {F : Trees} {i : Nat} {z : Nd} (h : F.list[i]? = some z) : F.writes[i]? = some (z.kind, z.write) := by
 rw [F.writes_list, List.getElem?_map, h]; rfl
theorem Trees.writes_head {F : Trees} {z : Nd} (h : F.list[0]? = some z) : F.writes.headD (0, []) = (z.kind, z.write) := by
 have := Trees.writes_get h
 cases hw : F.writes with
 | nil => rw [hw] at this; simp at this
 | cons a l => rw [hw] at this; simpa using this
theorem Nd.write_leaf {x : Nd} (h : x.kind = 1 ∨ x.kind = 3) : x.write = [⟨1, 0, x.set.testBit, 0, 0⟩] := by unfold Nd.write writeK; rw [if_pos h]
theorem Nd.write_cat {x : Nd} (h : x.kind = 4) : x.write = (x.kids.writes.map (kidS 4)).flatten := by unfold Nd.write writeK; rw [if_neg (by omega), if_pos h]
theorem Nd.write_alt {x : Nd} (h : x.kind = 5) : x.write = barsS (x.kids.writes.map (kidS 5)) := by unfold Nd.write writeK; rw [if_neg (by omega), if_neg (by omega), if_pos h]
theorem Nd.write_post {x : Nd} (h : 6 ≤ x.kind ∧ x.kind ≤ 8) : x.write = kidS x.kind (x.kids.writes.headD (0, [])) ++ [lexK (x.kind - 1)] := by unfold Nd.write writeK; rw [if_neg (by omega), if_neg (by omega), if_neg (by omega), if_pos h]
theorem Nd.write_rep {x : Nd} (h : x.kind = 9) : x.write = kidS 9 (x.kids.writes.headD (0, [])) ++ [⟨8, 0, noSet, x.lo, x.hi⟩] := by unfold Nd.write writeK; rw [if_neg (by omega), if_neg (by omega), if_neg (by omega), if_neg (by omega), if_pos h, h]
theorem Nd.write_empty {x : Nd} (h : x.kind = 2) : x.write = [] := by unfold Nd.write writeK; rw [if_neg (by omega), if_neg (by omega), if_neg (by omega), if_neg (by omega), if_neg (by omega)]
theorem kidS_len (p : Int) (q : Int × List Lex) : (kidS p q).length ≤ q.2.length + 2 := by
 unfold kidS
 split
 ·simp
 ·omega
def costW (l : List (Int × List Lex)) : Nat := (l.map fun q => q.2.length + 3).sum
theorem costW_flat (p : Int) : ∀ l : List (Int × List Lex), ((l.map (kidS p)).flatten).length ≤ costW l
 | [] => by simp
 | q :: l => by
  have h1 := costW_flat p l
  have h2 := kidS_len p q
  unfold costW at *
  simp only [List.map_cons, List.flatten_cons, List.length_append, List.sum_cons]
  omega
theorem costW_bars (p : Int) : ∀ l : List (Int × List Lex), ((l.map (kidS p)).flatMap fun x => lexK 4 :: x).length ≤ costW l
 | [] => by simp
 | q :: l => by
  have h1 := costW_bars p l
  have h2 := kidS_len p q
  unfold costW at *
  simp only [List.map_cons, List.flatMap_cons, List.length_append, List.sum_cons, List.length_cons]
  omega
theorem costW_head (p : Int) (l : List (Int × List Lex)) : (kidS p (l.headD (0, []))).length ≤ costW l + 2 := by
 cases l with
 | nil => exact Nat.le_trans (kidS_len _ _) (by simp [costW])
 | cons q l =>
  have := kidS_len p q
  unfold costW
  simp only [List.headD_cons, List.map_cons, List.sum_cons]
  omega
theorem writeK_len (k : Int) (s : Nat) (lo hi : Int) (ks : List (Int × List Lex)) : (writeK k s lo hi ks).length ≤ costW ks + 3 := by
 unfold writeK
 have h1 := costW_flat 4 ks
 have h2 := costW_bars 5 ks
 have h3 := costW_head k ks
 unfold barsS
 repeat' split
 all_goals (try simp only [List.length_append, List.length_cons, List.length_nil, List.length_drop])
 all_goals omega
theorem Trees.cost_le : ∀ F : Trees, costW F.writes ≤ 6 * F.size
 | .nil => by simp [Trees.writes, costW]
 | .cons k s ks lo hi r => by
  have h1 := Trees.cost_le ks
  have h2 := Trees.cost_le r
  have h3 := writeK_len k s lo hi ks.writes
  have e : costW (Trees.cons k s ks lo hi r).writes = (writeK k s lo hi ks.writes).length + 3 + costW r.writes := by simp [costW, Trees.writes]
  rw [e, Trees.size]
  omega
theorem Nd.write_len (x : Nd) : x.write.length ≤ 6 * x.size := by
 have h1 := writeK_len x.kind x.set x.lo x.hi x.kids.writes
 have h2 := x.kids.cost_le
 unfold Nd.write Nd.size
 omega
theorem lexK_right {k : Int} (h : 2 ≤ k ∧ k ≤ 7) : rightS (lexK k) = true := by
 have e0 := word_empty 0 (by decide)
 have e1 := word_empty 1 (by decide)
 have e2 := word_empty 2 (by decide)
 have e3 := word_empty 3 (by decide)
 have h1 : ¬ k = 8 := by omega
 have h2 : ¬ k = 1 := by omega
 unfold rightS rightV lexK
 simp [e0, e1, e2, e3, h1, h2]
 omega
theorem kidS_right {p : Int} {q : Int × List Lex} (h : ∀ y ∈ q.2, rightS y = true) : ∀ y ∈ kidS p q, rightS y = true := by
 intro y hy
 unfold kidS at hy
 split at hy
 ·rcases List.mem_cons.1 hy with rfl | hy
  ·exact lexK_right (by decide)
  ·rcases List.mem_append.1 hy with hy | hy
   ·exact h y hy
   ·rw [List.mem_singleton.1 hy]; exact lexK_right (by decide)
 ·exact h y hy
theorem writeK_right {k : Int} {s : Nat} {lo hi : Int} {ks : List (Int × List Lex)} (h9 : k = 9 → 0 ≤ lo ∧ lo ≤ 1000 ∧ (hi = -1 ∨ lo ≤ hi) ∧ hi ≤ 1000) (h : ∀ q ∈ ks, ∀ y ∈ q.2, rightS y = true) : ∀ y ∈ writeK k s lo hi ks, rightS y = true := by
 have hh : ∀ y ∈ kidS k (ks.headD (0, [])), rightS y = true := by
  refine kidS_right ?_
  cases ks with
  | nil => intro y hy; simp at hy
  | cons q l => exact h q (by simp)
 intro y hy
 unfold writeK at hy
 split at hy
 ·rw [List.mem_singleton.1 hy]; exact right_set 0 _
 split at hy
 ·obtain ⟨l, hl, hy⟩ := List.mem_flatten.1 hy
  obtain ⟨q, hq, rfl⟩ := List.mem_map.1 hl
  exact kidS_right (h q hq) y hy
 split at hy
 ·obtain ⟨l, hl, hy⟩ := List.mem_flatMap.1 (List.mem_of_mem_drop hy)
  obtain ⟨q, hq, rfl⟩ := List.mem_map.1 hl
  rcases List.mem_cons.1 hy with rfl | hy
  ·exact lexK_right (by decide)
  ·exact kidS_right (h q hq) y hy
 split at hy
 ·rcases List.mem_append.1 hy with hy | hy
  ·exact hh y hy
  ·rw [List.mem_singleton.1 hy]; exact lexK_right (by omega)
 split at hy
 ·rename_i hk9
  rcases List.mem_append.1 hy with hy | hy
  ·exact hh y hy
  ·rw [List.mem_singleton.1 hy]
   have := h9 hk9
   have e := right_rep_of 0 lo.toNat hi (by omega) (by omega)
   rw [Int.toNat_of_nonneg this.1] at e
   exact e
 ·cases hy
theorem alone_nine {y : Nd} (h : aloneN y = true) : y.kind = 9 → 0 ≤ y.lo ∧ y.lo ≤ 1000 ∧ (y.hi = -1 ∨ y.lo ≤ y.hi) ∧ y.hi ≤ 1000 := fun h9 => by
 have h1 := numsOk_of h h9
 have h2 := (aloneN_kids h).2.1 h9
 omega
theorem writes_right : ∀ (F : Trees), Okays F → ∀ q ∈ F.writes, ∀ y ∈ q.2, rightS y = true
 | .nil, _, q, hq => by cases hq
 | .cons k s ks lo hi r, ho, q, hq => by
  rw [Trees.writes] at hq
  rcases List.mem_cons.1 hq with rfl | hq
  ·exact writeK_right (alone_nine (y := ⟨k, s, ks, lo, hi⟩) (ho _ (by simp [Trees.nodes]))) (writes_right ks (fun y hy => ho y (by simp [Trees.nodes, hy])))
  ·exact writes_right r (fun y hy => ho y (by simp [Trees.nodes, hy])) q hq
theorem okays_kids {x : Nd} (h : rightT x = true) : aloneN x = true ∧ Okays x.kids := by
 unfold rightT at h
 rw [Bool.and_eq_true] at h
 have := List.all_eq_true.1 h.2
 exact ⟨this x (by simp [Nd.nodes]), fun y hy => this y (by simp [Nd.nodes, hy])⟩
theorem write_right {x : Nd} (h : rightT x = true) : x.write.all rightS = true := by
 obtain ⟨h1, h2⟩ := okays_kids h
 exact List.all_eq_true.2 (writeK_right (alone_nine h1) (writes_right _ h2))
def lexsS (x : Nd) : Except Int (List Lex) := if rightT x = false then .error 6 else match lexemesS x.write with
 | .error _ => .error 4
 | .ok _ => .ok x.write
def showT (x : Nd) : Except Int (List Nat) := match lexsS x with
 | .error e => .error e
 | .ok L => if 65536 < (joinS L).length then .error 4 else .ok (joinS L)
end Go.Proofs.YtofbfafnpdaejaaGreatDoor
