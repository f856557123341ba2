/- Texts of the claim. -/
import Derived.Test.YtfekpkelmliejaaGreatDoorJZ05
import Derived.Test.YtfekpkelmliejaaGreatDoorJZ04
namespace Go.Proofs.YtfekpkelmliejaaGreatDoor
open Go.RowKit
set_option linter.unusedSimpArgs false
set_option linter.unusedVariables false
set_option maxRecDepth 100000
set_option maxHeartbeats 8000000
theorem mask_words {p q : Nat → Bool} (h : ∀ i, i < 4 → word p i = word q i) : maskOf p = maskOf q := by
 refine Nat.eq_of_testBit_eq fun j => ?_
 unfold maskOf
 rw [testBit_ofBits, testBit_ofBits]
 by_cases hj : j < 256
 ·have h1 := testBit_word p (j / 64) (j % 64)
  have h2 := testBit_word q (j / 64) (j % 64)
  rw [h _ (by omega)] at h1
  rw [h1] at h2
  have e : decide (j % 64 < 64) = true := by simp; omega
  rw [e, Bool.true_and, Bool.true_and, show 64 * (j / 64) + j % 64 = j by omega] at h2
  rw [h2]
 ·simp [hj]
theorem keyL_like {x y : Lex} (h : likeW y x) : keyL y = keyL x := by
 unfold keyL
 rw [h.1, mask_words h.2.1, h.2.2.1, h.2.2.2]
theorem lexsS_read {x : Nd} {L : List Lex} (h : lexsS x = .ok L) : ∃ z, lexemesS x.write = .ok z := by
 unfold lexsS at h
 split at h
 ·cases h
 ·split at h
  ·cases h
  ·exact ⟨_, by assumption⟩
theorem parse_show {x : Nd} {t : List Nat} (h : showT x = .ok t) : parseS t = .ok x.said ∧ (∀ y ∈ t, y < 256) ∧ t.length ≤ 65536 ∧ rightT x = true := by
 unfold showT at h
 split at h
 ·cases h
 rename_i L hl
 split at h
 ·cases h
 rename_i hlen
 cases h
 obtain ⟨hall, _, hr, rfl⟩ := lexsS_form hl
 obtain ⟨z, hz⟩ := lexsS_read hl
 have hR : ∀ y ∈ x.write, rightS y = true := List.all_eq_true.1 hall
 have hjb := joinS_bytes (fun k y hy => hR y (List.mem_of_getElem? hy))
 obtain ⟨M, hM, hMl, hMq⟩ := splitS_back hR hjb (by omega)
 have hMr := (splitS_right hjb hM).1
 have hkey : M.map keyL = x.write.map keyL := by
  refine List.ext_getElem? fun k => ?_
  rw [List.getElem?_map, List.getElem?_map]
  rcases Nat.lt_or_ge k M.length with hk | hk
  ·rw [List.getElem?_eq_getElem hk, List.getElem?_eq_getElem (by omega)]
   simp only [Option.map_some, Option.some.injEq]
   exact keyL_like (hMq k _ _ (List.getElem?_eq_getElem hk) (List.getElem?_eq_getElem (by omega)))
  ·rw [List.getElem?_eq_none hk, List.getElem?_eq_none (by omega)]
 refine ⟨?_, hjb, by omega, hr⟩
 unfold parseS
 rw [hM]
 have := lexemesS_key hkey (List.all_eq_true.2 fun y hy => by obtain ⟨k, hk, rfl⟩ := List.mem_iff_getElem.1 hy; exact hMr k _ (List.getElem?_eq_getElem hk)) hz
 simp only
 rw [this, read_write hr hz]
end Go.Proofs.YtfekpkelmliejaaGreatDoor
