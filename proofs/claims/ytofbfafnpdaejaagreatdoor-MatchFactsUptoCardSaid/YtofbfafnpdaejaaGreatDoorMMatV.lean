/- Texts of the claim. -/
import Derived.Test.YtofbfafnpdaejaaGreatDoorMZ05
namespace Go.Proofs.YtofbfafnpdaejaaGreatDoor
open Go.RowKit Go.Shelf Go.MapKept Go.ChangeMaps Go.Maps
set_option linter.unusedSimpArgs false
set_option linter.unusedVariables false
set_option maxRecDepth 100000
set_option maxHeartbeats 8000000
theorem keys_apart {α β : Type} {f : α → β} : ∀ {l : List α}, (l.map f).Nodup → ∀ {a b : α}, a ∈ l → b ∈ l → f a = f b → a = b
 | [], _, _, _, h, _, _ => by cases h
 | x :: l, hn, a, b, ha, hb, he => by
  rw [List.map_cons] at hn
  obtain ⟨h1, h2⟩ := List.nodup_cons.1 hn
  rcases List.mem_cons.1 ha with h3 | h3 <;> rcases List.mem_cons.1 hb with h4 | h4
  ·rw [h3, h4]
  ·exact absurd (by rw [← h3, he]; exact List.mem_map.2 ⟨b, h4, rfl⟩ : f x ∈ l.map f) h1
  ·exact absurd (by rw [← h4, ← he]; exact List.mem_map.2 ⟨a, h3, rfl⟩ : f x ∈ l.map f) h1
  ·exact keys_apart h2 h3 h4 he
section
variable {κ : Type} {key : κ → Value} {ok : κ → Prop} {good : κ → Value → Prop} {w w1 : World} {b : Nat} {k t E : TypeId} {P : Program}
theorem MemoAt.look2 (h : MemoAt key ok good w b) (K : Keyed P k) (ht : P.underlying t = some (.map k E)) {z : Value} (hz : ∀ w, (zeroValue E).run P w = .ok z w) (hk : ∀ q, ok q → ∃ l, keyOf P k (key q) = some l) (hinj : ∀ q q', key q = key q' → q = q') {q : κ} (hq : ok q) :
  (∀ w1 : World, w1.heap[b]? = w.heap[b]? → (Instr.lookup t (.map (some b)) (key q) true).run P w1 = .ok (.tuple #[z, .bool false]) w1) ∨ ∃ v, good q v ∧ ∀ w1 : World, w1.heap[b]? = w.heap[b]? → (Instr.lookup t (.map (some b)) (key q) true).run P w1 = .ok (.tuple #[v, .bool true]) w1 := by
 obtain ⟨es, clock, hb, h1, h2⟩ := h
 obtain ⟨l, hl⟩ := hk q hq
 have hks : ∀ e ∈ es.toList, ∃ l, keyOf P k e.key = some l := fun x hx => by
  obtain ⟨q', h3, h4, _⟩ := h2 x hx
  rw [h4]
  exact hk q' h3
 by_cases hx : ∃ e ∈ es.toList, e.key = key q
 ·obtain ⟨e, he, hek⟩ := hx
  refine .inr ⟨e.val, ?_, fun w1 hw => ?_⟩
  ·obtain ⟨q', h3, h4, h5⟩ := h2 e he
   rw [hinj q q' (hek.symm.trans h4)]
   exact h5
  ·rcases K.find w1 hl es.toList hks with ⟨f1, f2⟩ | ⟨j, e0, f1, f2, f3⟩
   ·exact absurd hek (f2 e he)
   ·obtain rfl : e0 = e := keys_apart h1.2.2 (List.mem_of_getElem? f2) he (f3.trans hek.symm)
    simp [Instr.lookup, run_underlying ht, MapKept.run_getObj_map (hw.trans hb), K.check w1 _ hl, f1, Result.andThen]
 ·refine .inl fun w1 hw => ?_
  rcases K.find w1 hl es.toList hks with ⟨f1, f2⟩ | ⟨j, e0, f1, f2, f3⟩
  ·simp [Instr.lookup, run_underlying ht, MapKept.run_getObj_map (hw.trans hb), K.check w1 _ hl, f1, hz w1, Result.andThen]
  ·exact absurd ⟨e0, List.mem_of_getElem? f2, f3⟩ hx
end
theorem zero_places (w : World) : (zeroValue 69).run Tryz.prog w = .ok (.agg #[.int .u64 0, .int .u64 0, .int .u64 0, .int .u64 0, .int .u64 0]) w := by kernel_rfl
theorem ask_ok {k i : Nat} (hk : k ≤ 1000000) (hi : i ≤ 256) : okA ((k : Int), (i : Int)) := by
 constructor <;> simp [Lit.wf, show IntKind.i64.min = -9223372036854775808 from by decide, show IntKind.i64.max = 9223372036854775807 from by decide] <;> omega
theorem memo_look {x z : Nd} {bs : List Nat} {w : World} {fm k i : Nat} (h : MemoAt askV okA (goodM x bs) w fm) (hk : k ≤ 1000000) (hi : i ≤ 256) (hz : x.nodes[k]? = some z) :
  (∀ w1 : World, w1.heap[fm]? = w.heap[fm]? → (Instr.lookup 129 (.map (some fm)) (.agg #[.int .i64 (k : Int), .int .i64 (i : Int)]) true).run Tryz.prog w1 = .ok (.tuple #[.agg #[.int .u64 0, .int .u64 0, .int .u64 0, .int .u64 0, .int .u64 0], .bool false]) w1) ∨
  ∀ w1 : World, w1.heap[fm]? = w.heap[fm]? → (Instr.lookup 129 (.map (some fm)) (.agg #[.int .i64 (k : Int), .int .i64 (i : Int)]) true).run Tryz.prog w1 = .ok (.tuple #[.agg #[.int .u64 (word (endsB z bs i) 0), .int .u64 (word (endsB z bs i) 1), .int .u64 (word (endsB z bs i) 2), .int .u64 (word (endsB z bs i) 3), .int .u64 (word (endsB z bs i) 4)], .bool true]) w1 := by
 rcases h.look2 askKeyed Tryz.underlying129 zero_places ask_key askV_inj (ask_ok hk hi) with h1 | ⟨v, h2, h3⟩
 ·exact .inl h1
 ·refine .inr ?_
  have := h2 k i z rfl hz
  rw [← this]
  exact h3
theorem memo_put {x z : Nd} {bs : List Nat} {w : World} {fm k i : Nat} (h : MemoAt askV okA (goodM x bs) w fm) (hk : k ≤ 1000000) (hi : i ≤ 256) (hz : x.nodes[k]? = some z) :
  ∃ w2, (Instr.mapUpdate 129 (.map (some fm)) (.agg #[.int .i64 (k : Int), .int .i64 (i : Int)]) (.agg #[.int .u64 (word (endsB z bs i) 0), .int .u64 (word (endsB z bs i) 1), .int .u64 (word (endsB z bs i) 2), .int .u64 (word (endsB z bs i) 3), .int .u64 (word (endsB z bs i) 4)])).run Tryz.prog w = .ok () w2 ∧ MemoAt askV okA (goodM x bs) w2 fm ∧ w.grownBy w2 (some fm) :=
 h.store askKeyed Tryz.underlying129 ask_key (ask_ok hk hi) (fun k' i' z' e hz' => by
  simp at e
  obtain ⟨e1, e2⟩ := e
  obtain rfl : k = k' := by omega
  obtain rfl : i = i' := by omega
  rw [hz] at hz'
  cases hz'
  rfl)
end Go.Proofs.YtofbfafnpdaejaaGreatDoor
