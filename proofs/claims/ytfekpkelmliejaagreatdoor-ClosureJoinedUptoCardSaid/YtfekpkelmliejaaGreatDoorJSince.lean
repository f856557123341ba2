/- Texts of the claim. -/
import Derived.Deep.RegionHeld3
import Derived.Test.YtfekpkelmliejaaGreatDoorJZ01
namespace Go.Proofs.YtfekpkelmliejaaGreatDoor
open Go.RowKit
set_option linter.unusedSimpArgs false
set_option linter.unusedVariables false
set_option maxHeartbeats 8000000
def Since (n : Nat) (w0 w : World) : Prop := Below n w0 w ∧ n ≤ w0.heap.size
theorem Since.cells {n : Nat} {w0 w : World} (h : Since n w0 w) : ∀ b o, b < n → w.cell? ⟨b, o, none⟩ = w0.cell? ⟨b, o, none⟩ := (bcell h.1).1
theorem since_step {n : Nat} {w0 w w' : World} (h : (∀ b o, b < n → w.cell? ⟨b, o, none⟩ = w0.cell? ⟨b, o, none⟩) ∧ Since n w0 w) (hb : Below w.heap.size w w') : (∀ b o, b < n → w'.cell? ⟨b, o, none⟩ = w0.cell? ⟨b, o, none⟩) ∧ Since n w0 w' := by
 have h2 : Since n w0 w' := ⟨h.2.1.trans (hb.mono (Nat.le_trans h.2.2 h.2.1.size)), h.2.2⟩
 exact ⟨h2.cells, h2⟩
theorem since_alloc {n : Nat} {w0 w : World} (h : (∀ b o, b < n → w.cell? ⟨b, o, none⟩ = w0.cell? ⟨b, o, none⟩) ∧ Since n w0 w) (o : Obj) : (∀ b i, b < n → (w.alloc o).cell? ⟨b, i, none⟩ = w0.cell? ⟨b, i, none⟩) ∧ Since n w0 (w.alloc o) := since_step h ((Below.refl _ _).alloc (Nat.le_refl _) o)
theorem since_start {n : Nat} {w0 : World} (h : n ≤ w0.heap.size) : (∀ b o, b < n → w0.drew.cell? ⟨b, o, none⟩ = w0.cell? ⟨b, o, none⟩) ∧ Since n w0 w0.drew := by
 have h2 : Since n w0 w0.drew := ⟨(Below.refl _ _).drew, h⟩
 exact ⟨h2.cells, h2⟩
theorem since_set {n : Nat} {w0 w : World} (h : (∀ b o, b < n → w.cell? ⟨b, o, none⟩ = w0.cell? ⟨b, o, none⟩) ∧ Since n w0 w) {p : Addr} (hp : n ≤ p.block) (v : Value) : (∀ b i, b < n → (w.setCell p v).cell? ⟨b, i, none⟩ = w0.cell? ⟨b, i, none⟩) ∧ Since n w0 (w.setCell p v) := by
 have h2 : Since n w0 (w.setCell p v) := ⟨h.2.1.setCell hp v, h.2.2⟩
 exact ⟨h2.cells, h2⟩
theorem since_drew {n : Nat} {w0 w : World} (h : (∀ b o, b < n → w.cell? ⟨b, o, none⟩ = w0.cell? ⟨b, o, none⟩) ∧ Since n w0 w) : (∀ b i, b < n → (w.drew).cell? ⟨b, i, none⟩ = w0.cell? ⟨b, i, none⟩) ∧ Since n w0 w.drew := by
 have h2 : Since n w0 w.drew := ⟨h.2.1.drew, h.2.2⟩
 exact ⟨h2.cells, h2⟩
theorem since_refl {n : Nat} {w0 : World} (h : n ≤ w0.heap.size) : (∀ b o, b < n → w0.cell? ⟨b, o, none⟩ = w0.cell? ⟨b, o, none⟩) ∧ Since n w0 w0 := ⟨fun _ _ _ => rfl, Below.refl _ _, h⟩
theorem bytes_since {n N : Nat} {w0 w : World} {A : Option Addr} {bs : List Nat} (h : (∀ b o, b < n → w.cell? ⟨b, o, none⟩ = w0.cell? ⟨b, o, none⟩) ∧ Since n w0 w) (hA : BytesAt w0 N A bs) (hN : N ≤ n) : BytesAt w w.heap.size A bs :=
 (hA.below (h.2.1.mono hN)).more (Nat.le_trans hN (Nat.le_trans h.2.2 h.2.1.size))
end Go.Proofs.YtfekpkelmliejaaGreatDoor
