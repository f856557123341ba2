/- Texts of the claim. -/
import Derived.Test.YtfekpkelmliejaaGreatDoorJSpecRead
namespace Go.Proofs.YtfekpkelmliejaaGreatDoor
open Go.RowKit
set_option linter.unusedSimpArgs false
set_option linter.unusedVariables false
set_option maxRecDepth 100000
set_option maxHeartbeats 8000000
theorem lineAt_lt {bs : List Nat} (h : ∀ x ∈ bs, x < 256) (i : Nat) : ∀ x ∈ lineAt bs i, x < 256 := fun x hx => by
 unfold lineAt at hx
 exact h x (List.mem_of_mem_drop ((List.takeWhile_sublist _).subset hx))
theorem stepS_lt {bs : List Nat} (hb : ∀ x ∈ bs, x < 256) {rs rs' : List RuleS} {i : Nat} (h : stepS bs rs i = .ok rs') (hl : ∀ r ∈ rs, ∀ c ∈ r.name, c < 256) : ∀ r ∈ rs', ∀ c ∈ r.name, c < 256 := by
 unfold stepS at h
 split at h
 ·cases h; exact hl
 ·cases hx : lineS rs (lineAt bs i) with
  | error e => rw [hx] at h; cases h
  | ok r =>
   rw [hx] at h
   cases h
   intro x hm
   rcases List.mem_append.1 hm with hm | hm
   ·exact hl x hm
   ·rw [List.mem_singleton.1 hm, (headS_ok (lineS_ok hx).1).2.1]
    exact fun c hc => lineAt_lt hb i c (List.mem_of_mem_take hc)
theorem foldS_lt {bs : List Nat} (hb : ∀ x ∈ bs, x < 256) : ∀ {l : List Nat} {rs rs' : List RuleS}, foldS bs rs l = .ok rs' → (∀ r ∈ rs, ∀ c ∈ r.name, c < 256) → ∀ r ∈ rs', ∀ c ∈ r.name, c < 256
 | [], rs, rs', h, hl => by cases h; exact hl
 | i :: l, rs, rs', h, hl => by
  unfold foldS at h
  cases hs : stepS bs rs i with
  | error e => rw [hs] at h; cases h
  | ok r => rw [hs] at h; exact foldS_lt hb h (stepS_lt hb hs hl)
theorem rulesS_lt {bs : List Nat} (hb : ∀ x ∈ bs, x < 256) {rs : List RuleS} (h : rulesS bs = .ok rs) : ∀ r ∈ rs, ∀ c ∈ r.name, c < 256 := by
 rw [rulesS_fold (rulesS_ok_len h)] at h
 exact foldS_lt hb h (fun r hr => by cases hr)
end Go.Proofs.YtfekpkelmliejaaGreatDoor
