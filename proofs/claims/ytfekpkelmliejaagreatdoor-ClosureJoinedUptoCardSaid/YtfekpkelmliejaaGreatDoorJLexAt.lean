/- Texts of the claim. -/
import Derived.Test.YtfekpkelmliejaaGreatDoorJZ01
namespace Go.Proofs.YtfekpkelmliejaaGreatDoor
set_option linter.unusedSimpArgs false
set_option linter.unusedVariables false
set_option maxHeartbeats 8000000
theorem lexS_dot {bs : List Nat} {i : Nat} (h : byteAt bs i = 46) : lexS bs i = .ok (⟨1, i, dotSet, 0, 0⟩, i + 1) := by
 unfold lexS; rw [if_pos h]
theorem lexS_esc {bs : List Nat} {i c j : Nat} (h : byteAt bs i = 92) (he : escS bs i = some (c, j)) : lexS bs i = .ok (⟨1, i, among [c] 1, 0, 0⟩, j) := by
 unfold lexS; rw [if_neg (by omega), if_pos h, he]
theorem lexS_esc_no {bs : List Nat} {i : Nat} (h : byteAt bs i = 92) (he : escS bs i = none) : lexS bs i = .error (14, i) := by
 unfold lexS; rw [if_neg (by omega), if_pos h, he]
theorem lexS_class {bs : List Nat} {i : Nat} {p : Nat → Bool} {j : Nat} (h : byteAt bs i = 91) (he : readS bs i = .ok (p, j)) : lexS bs i = .ok (⟨1, i, p, 0, 0⟩, j) := by
 unfold lexS; rw [if_neg (by omega), if_neg (by omega), if_pos h, he]
theorem lexS_class_no {bs : List Nat} {i : Nat} {e : Wrong} (h : byteAt bs i = 91) (he : readS bs i = .error e) : lexS bs i = .error e := by
 unfold lexS; rw [if_neg (by omega), if_neg (by omega), if_pos h, he]
theorem lexS_rep {bs : List Nat} {i : Nat} (h : byteAt bs i = 123) : lexS bs i = repS bs i := by
 unfold lexS; rw [if_neg (by omega), if_neg (by omega), if_neg (by omega), if_pos h]
theorem lexS_form {bs : List Nat} {i : Nat} (h : byteAt bs i = 93 ∨ byteAt bs i = 125 ∨ byteAt bs i = 10) : lexS bs i = .error (3, i) := by
 unfold lexS; rw [if_neg (by omega), if_neg (by omega), if_neg (by omega), if_neg (by omega), if_pos h]
def Common (c : Nat) : Prop := c ≠ 46 ∧ c ≠ 92 ∧ c ≠ 91 ∧ c ≠ 123 ∧ c ≠ 93 ∧ c ≠ 125 ∧ c ≠ 10
theorem lexS_sign {bs : List Nat} {i : Nat} (h : Common (byteAt bs i)) (hk : signKind (byteAt bs i) ≠ 0) : lexS bs i = .ok (⟨signKind (byteAt bs i), i, noSet, 0, 0⟩, i + 1) := by
 obtain ⟨h1, h2, h3, h4, h5, h6, h7⟩ := h
 unfold lexS; rw [if_neg h1, if_neg h2, if_neg h3, if_neg h4, if_neg (by omega), if_pos hk]
theorem lexS_own {bs : List Nat} {i : Nat} (h : Common (byteAt bs i)) (hk : signKind (byteAt bs i) = 0) : lexS bs i = .ok (⟨1, i, among [byteAt bs i] 1, 0, 0⟩, i + 1) := by
 obtain ⟨h1, h2, h3, h4, h5, h6, h7⟩ := h
 unfold lexS; rw [if_neg h1, if_neg h2, if_neg h3, if_neg h4, if_neg (by omega), if_neg (by omega)]
end Go.Proofs.YtfekpkelmliejaaGreatDoor
