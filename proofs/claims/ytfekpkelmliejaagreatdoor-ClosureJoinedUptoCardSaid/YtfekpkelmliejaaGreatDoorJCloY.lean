/- Texts of the claim. -/
import Derived.Test.YtfekpkelmliejaaGreatDoorJZ04
import Derived.Test.YtfekpkelmliejaaGreatDoorJNfaTo
import Derived.Test.YtfekpkelmliejaaGreatDoorJText07
import Derived.Test.YtfekpkelmliejaaGreatDoorJNfaP
namespace Go.Proofs.YtfekpkelmliejaaGreatDoor
open Go.RowKit
set_option linter.unusedSimpArgs false
set_option linter.unusedVariables false
set_option maxRecDepth 100000
set_option maxHeartbeats 8000000
theorem parse_a7 : parseS [97] = .ok (leafN (maskOf (among [97] 1))) := by rfl
def starN (s : Nat) : Nd := ⟨6, 0, Trees.of [leafN s], 0, 0⟩
theorem parse_as : parseS [97, 42] = .ok (starN (maskOf (among [97] 1))) := by rfl
theorem of_as (s : Nat) : ofS [leafN s, starN s] = .ok ⟨[0, 0, 1, 0, 0, 2], [(1, 2), (0, 3), (4, 3), (3, 5)], [(0, s, 1), (3, s, 4)]⟩ := by
 unfold ofS
 have h1 : rightT (leafN s) = true := by simp [rightT, leafN, Nd.nodes, Trees.nodes, aloneN, aloneV, Trees.len]
 have h2 : rightT (starN s) = true := by
  simp [rightT, starN, leafN, Trees.of, Nd.nodes, Trees.nodes, aloneN, aloneV, Trees.len]
  decide +kernel
 have h3 : sizeW [leafN s, starN s] = 6 := by rfl
 rw [if_neg (by simp), if_neg (by simp [h1, h2]), if_neg (by omega)]
 rfl
def nE (s : Nat) : NfaV := ⟨6, 0, [(1, 2), (0, 3), (4, 3), (3, 5)], [(0, s, 1), (3, s, 4)], [0, 0, 1, 0, 0, 2]⟩
theorem toV_as (s : Nat) : MachS.toV ⟨[0, 0, 1, 0, 0, 2], [(1, 2), (0, 3), (4, 3), (3, 5)], [(0, s, 1), (3, s, 4)]⟩ = nE s := rfl
theorem right_as (s : Nat) : rightN (nE s) = true := rfl
def stepsB (K : List (Int × Int)) (S : Int) (l : List Int) : List Int → List Int → Bool
 | _, [] => true
 | seen, x :: xs => ((l.contains x && decide (0 ≤ x) && decide (x < S)) || seen.any fun a => K.contains (a, x)) && stepsB K S l (x :: seen) xs
def shutB (K : List (Int × Int)) (S : Int) (l R : List Int) : Bool := (l.all fun s => !(decide (0 ≤ s) && decide (s < S)) || R.contains s) && K.all fun p => !R.contains p.1 || R.contains p.2
theorem steps_lead {K : List (Int × Int)} {S : Int} {l : List Int} : ∀ (xs seen : List Int), stepsB K S l seen xs = true → (∀ x ∈ seen, Leads K (fun s => s ∈ l ∧ 0 ≤ s ∧ s < S) x) → ∀ x ∈ xs, Leads K (fun s => s ∈ l ∧ 0 ≤ s ∧ s < S) x
 | [], _, _, _, x, hx => by simp at hx
 | y :: xs, seen, h, hs, x, hx => by
  unfold stepsB at h
  rw [Bool.and_eq_true, Bool.or_eq_true] at h
  obtain ⟨h1, h2⟩ := h
  have hy : Leads K (fun s => s ∈ l ∧ 0 ≤ s ∧ s < S) y := by
   rcases h1 with h1 | h1
   ·simp at h1
    exact .here ⟨h1.1.1, h1.1.2, h1.2⟩
   ·rw [List.any_eq_true] at h1
    obtain ⟨a, ha, hk⟩ := h1
    exact .link (hs a ha) (by simpa using hk)
  rcases List.mem_cons.1 hx with rfl | hx
  ·exact hy
  ·exact steps_lead xs (y :: seen) h2 (fun z hz => (List.mem_cons.1 hz).elim (fun e => by rw [e]; exact hy) (hs z)) x hx
theorem isclos_of {K : List (Int × Int)} {S : Int} {l R : List Int} (order : List Int) (h1 : Rises R) (h2 : stepsB K S l [] order = true) (h3 : ∀ x, x ∈ R → x ∈ order) (h4 : shutB K S l R = true) : IsClos K S l R := by
 unfold shutB at h4
 rw [Bool.and_eq_true] at h4
 refine ⟨h1, fun x => ⟨fun hx => steps_lead order [] h2 (by simp) x (h3 x hx), fun hx => ?_⟩⟩
 induction hx with
 | @here s hs =>
  have := List.all_eq_true.1 h4.1 s hs.1
  simpa [hs.2.1, hs.2.2] using this
 | @link a b _ hk ih =>
  have := List.all_eq_true.1 h4.2 (a, b) hk
  simpa [ih] using this
variable {s : Nat}
theorem start_as : IsClos (nE s).links (nE s).states [(nE s).start] [0, 3, 5] := isclos_of [0, 3, 5] (by simp [Rises]) (by rfl) (by simp) (by rfl)
theorem run_as0 : RunOf (nE s) [] [0, 3, 5] := .nil start_as
theorem step_as1 (h : s.testBit 97 = true) : IsStep (nE s) [0, 3, 5] 97 [1, 2, 3, 4, 5] :=
 ⟨[1, 4], fun t => by
  simp only [StepTo, nE, List.mem_cons, List.not_mem_nil, or_false]
  constructor
  ·rintro (rfl | rfl)
   ·exact ⟨(0, s, 1), .inl rfl, by simp, h, rfl⟩
   ·exact ⟨(3, s, 4), .inr rfl, by simp, h, rfl⟩
  ·rintro ⟨p, (rfl | rfl), _, _, rfl⟩
   ·exact .inl rfl
   ·exact .inr rfl, isclos_of [1, 2, 4, 3, 5] (by simp [Rises]) (by rfl) (by simp) (by rfl)⟩
theorem run_as1 (h : s.testBit 97 = true) : RunOf (nE s) [97] [1, 2, 3, 4, 5] := .snoc (v := []) run_as0 (step_as1 h)
theorem step_as2 (h : s.testBit 97 = true) : IsStep (nE s) [1, 2, 3, 4, 5] 97 [3, 4, 5] :=
 ⟨[4], fun t => by
  simp only [StepTo, nE, List.mem_cons, List.not_mem_nil, or_false]
  constructor
  ·rintro rfl
   exact ⟨(3, s, 4), .inr rfl, by simp, h, rfl⟩
  ·rintro ⟨p, (rfl | rfl), h1, _, rfl⟩
   ·simp at h1
   ·rfl, isclos_of [4, 3, 5] (by simp [Rises]) (by rfl) (by simp) (by rfl)⟩
theorem run_as2 (h : s.testBit 97 = true) : RunOf (nE s) [97, 97] [3, 4, 5] := .snoc (v := [97]) (run_as1 h) (step_as2 h)
theorem step_asb (h : s.testBit 98 = false) : IsStep (nE s) [0, 3, 5] 98 [] :=
 ⟨[], (fun t => by
  simp only [StepTo, nE, List.mem_cons, List.not_mem_nil, or_false, false_iff]
  rintro ⟨p, (rfl | rfl), _, h1, _⟩
  ·rw [h] at h1
   cases h1
  ·rw [h] at h1
   cases h1), isclos_of [] (by simp [Rises]) (by rfl) (by simp) (by rfl)⟩
theorem run_asb (h : s.testBit 98 = false) : RunOf (nE s) [98] [] := .snoc (v := []) run_as0 (step_asb h)
theorem lab_as1 : IsLabels (nE s) [1, 2, 3, 4, 5] [1, 2] := ⟨by simp [Rises], fun x => by
 constructor
 ·intro hx
  simp at hx
  rcases hx with rfl | rfl
  ·exact ⟨by decide, 2, by simp, rfl⟩
  ·exact ⟨by decide, 5, by simp, rfl⟩
 ·rintro ⟨h0, m, h1, h2⟩
  simp [nE] at h1 h2
  have : m = 1 ∨ m = 2 ∨ m = 3 ∨ m = 4 ∨ m = 5 := by omega
  rcases this with rfl | rfl | rfl | rfl | rfl <;> simp at h2 <;> subst h2 <;> simp at h0 ⊢⟩
theorem lab_as2 : IsLabels (nE s) [3, 4, 5] [2] := ⟨by simp [Rises], fun x => by
 constructor
 ·intro hx
  simp at hx
  subst hx
  exact ⟨by decide, 5, by simp, rfl⟩
 ·rintro ⟨h0, m, h1, h2⟩
  simp [nE] at h1 h2
  have : m = 3 ∨ m = 4 ∨ m = 5 := by omega
  rcases this with rfl | rfl | rfl <;> simp at h2 <;> subst h2 <;> simp at h0 ⊢⟩
theorem lab_asb : IsLabels (nE s) [] [] := ⟨by simp [Rises], fun x => ⟨fun h => by simp at h, fun ⟨_, m, h, _⟩ => by simp at h⟩⟩
theorem tell_as1 (h : s.testBit 97 = true) : TellOf (nE s) [97] 1 := ⟨_, _, run_as1 h, lab_as1, rfl⟩
theorem tell_as2 (h : s.testBit 97 = true) : TellOf (nE s) [97, 97] 2 := ⟨_, _, run_as2 h, lab_as2, rfl⟩
theorem tell_asb (h : s.testBit 98 = false) : TellOf (nE s) [98] 0 := ⟨_, _, run_asb h, lab_asb, rfl⟩
theorem mask_97 : (maskOf (among [97] 1)).testBit 97 = true ∧ (maskOf (among [97] 1)).testBit 98 = false := by decide +kernel
end Go.Proofs.YtfekpkelmliejaaGreatDoor
