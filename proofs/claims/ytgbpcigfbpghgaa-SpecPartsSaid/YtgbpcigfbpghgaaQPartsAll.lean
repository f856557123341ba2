/-
  The walk of SpecParts, its cases joined.
-/
import Derived.Test.YtgbpcigfbpghgaaQPartsGo
namespace Go.Proofs.Ytgbpcigfbpghgaa
open Go.RowKit
set_option linter.unusedSimpArgs false
set_option linter.unusedVariables false
set_option maxRecDepth 100000

theorem outOk {l : List RuleS} (w : World) : ∀ {e : Ending} {w' : World}, RulesOut (.ok l) w e w' → Out09 l 0 0 w e w' := by
  intro e w' h
  obtain ⟨A, cap, h1, h2, _, h4⟩ := h
  exact ⟨A, cap, h1, h2, h4⟩
theorem outErr {k q : Int} (w : World) : ∀ {e : Ending} {w' : World}, RulesOut (.error (k, q)) w e w' → Out09 [] k q w e w' := by
  intro e w' ⟨he, hb⟩
  exact ⟨none, 0, he, hb, RulesAt.nil⟩
/-- What spec.Read gives of a text, be it right or wrong. -/
theorem read_forms {bs : List Nat} (hb : ∀ x ∈ bs, x < 256) : (∃ l, rulesS bs = .ok l) ∨ ∃ k q, rulesS bs = .error (k, q) ∧ k ≠ 0 := by
  cases h : rulesS bs with
  | ok l => exact .inl ⟨l, rfl⟩
  | error e =>
    obtain ⟨k, q⟩ := e
    exact .inr ⟨k, q, rfl, rulesS_kind hb h⟩
theorem spec_parts_go (A : Option Addr) (cap : Nat) (a : List Nat) (A' : Option Addr) (cap' : Nat) (b : List Nat) (w : World) (hA : BytesAt w w.heap.size A a) (hc : a.length ≤ cap) (hA' : BytesAt w w.heap.size A' b) (hc' : b.length ≤ cap') :
    Calls Try.prog 3 #[.slice A a.length cap, .slice A' b.length cap'] w fun e w' => e = .returned (.bool true) ∧ Below w.heap.size w w' := by
  have r1 := sread_go A cap a w hA hc
  have r2 := fun w1 (hb : Below w.heap.size w w1) => sread_go A' cap' b w1 ((hA'.below hb).more hb.size) hc'
  rcases (read_forms hA.1).symm with ⟨k, q, hl, hk⟩ | ⟨l, hl⟩
  · rw [hl] at r1
    rcases read_forms hA'.1 with ⟨m, hm⟩ | ⟨k2, q2, hm, hk2⟩
    · rw [hm] at r2
      exact sp_bad1 (l := []) (m := m) (k2 := 0) (q2 := 0) A cap a A' cap' b w (by rw [bne_iff_ne]; exact hk) (Lib.hid (r1.mono fun e w' h => outErr w h)) (Lib.hid (fun w1 hb => (r2 w1 hb).mono fun e w' h => outOk w1 h))
    · rw [hm] at r2
      exact sp_bad1 (l := []) (m := []) A cap a A' cap' b w (by rw [bne_iff_ne]; exact hk) (Lib.hid (r1.mono fun e w' h => outErr w h)) (Lib.hid (fun w1 hb => (r2 w1 hb).mono fun e w' h => outErr w1 h))
  rw [hl] at r1
  have HF1 := Lib.hid (r1.mono fun e w' h => outOk w h)
  obtain ⟨hl64, hlz⟩ := rulesS_few hl
  have hal := rulesS_ok_len hl
  rcases (read_forms hA'.1).symm with ⟨k2, q2, hm, hk2⟩ | ⟨m, hm⟩
  · rw [hm] at r2
    exact sp_bad2 (l := l) (m := []) A cap a A' cap' b w (by rw [bne_iff_ne]; exact hk2) HF1 (Lib.hid (fun w1 hb => (r2 w1 hb).mono fun e w' h => outErr w1 h))
  rw [hm] at r2
  have HF2 := Lib.hid (fun w1 (hb : Below w.heap.size w w1) => (r2 w1 hb).mono fun e w' h => outOk w1 h)
  obtain ⟨hm64, hmz⟩ := rulesS_few hm
  have hbl := rulesS_ok_len hm
  rcases Nat.lt_or_ge 64 (l.length + m.length) with hlm | hlm
  · exact sp_many A cap a A' cap' b w hl64 hm64 hlm HF1 HF2
  rcases (Nat.lt_or_ge (a.length + b.length) 65536).symm with hab | hab
  · exact sp_long A cap a A' cap' b w hl64 hm64 hlm hal hbl hab HF1 HF2
  have hp := rules_parts hl hm hlm hab
  split at hp
  · rename_i hd
    obtain ⟨q, hq, hr⟩ := hp
    have HF3 := Lib.hid (fun w2 C c (hC : BytesAt w2 w2.heap.size C (a ++ 10 :: b)) (hc : (a ++ 10 :: b).length ≤ c) => by
      have := sread_go C c (a ++ 10 :: b) w2 hC hc
      rw [hr] at this
      exact this.mono fun e w' h => outErr w2 h)
    exact sp_twice (u := []) A cap a A' cap' b w hl64 hm64 hlm hal hbl hab (Lib.hid hA) (Lib.hid hA') (rulesS_lt hA.1 hl) (rulesS_lt hA'.1 hm) (Lib.hid hd) hq HF1 HF2 HF3
  · rename_i hd
    have HF3 := Lib.hid (fun w2 C c (hC : BytesAt w2 w2.heap.size C (a ++ 10 :: b)) (hc : (a ++ 10 :: b).length ≤ c) => by
      have := sread_go C c (a ++ 10 :: b) w2 hC hc
      rw [hp] at this
      exact this.mono fun e w' h => outOk w2 h)
    exact sp_none (u := l ++ m) A cap a A' cap' b w hl64 hm64 hlm hal hbl hab (Lib.hid hA) (Lib.hid hA') (rulesS_lt hA.1 hl) (rulesS_lt hA'.1 hm) (Lib.hid rfl) (Lib.hid (fun r hr => by
      rcases List.mem_append.1 hr with h | h
      · exact hlz r h
      · exact hmz r h)) (Lib.hid (fun r hr => by
      cases hcl : called l r.name with
      | false => rfl
      | true => exact absurd ⟨r, hr, hcl⟩ hd)) HF1 HF2 HF3
end Go.Proofs.Ytgbpcigfbpghgaa
