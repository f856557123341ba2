/-
  facts.least at any tree that may be and says a short word.
-/
import Derived.Test.YtfekpkelmliejaaGreatDoorQLstW
import Derived.Test.YtfekpkelmliejaaGreatDoorQRept
import Derived.Test.YtfekpkelmliejaaGreatDoorQZ03
namespace Go.Proofs.YtfekpkelmliejaaGreatDoor
open Go.RowKit
set_option linter.unusedSimpArgs false
set_option linter.unusedVariables false
set_option maxRecDepth 100000

/-- What a call for the kids may use. -/
def KidLe (F : Trees) (P : Nat → Prop) (w0 : World) : Prop := ∀ (i : Nat) (z : Nd) (C : Option Addr) (capc : Nat) (W : World), F.list[i]? = some z → z.sum.hollow = false → z.sum.short ≤ 2000 → Below w0.heap.size w0 W → TreesAt W P z.kids C →
  Calls Tryz.prog 62 #[ndV z C capc] W (WordOut z.least W)
theorem KidLe.later {F : Trees} {P : Nat → Prop} {w w2 : World} (h : KidLe F P w) (hb : Below w.heap.size w w2) : KidLe F P w2 := fun i z C capc W hz h1 h2 hW ht => h i z C capc W hz h1 h2 (hb.trans (hW.mono hb.size)) ht
theorem elems_full {s : Nat} (h : isNoSet s = false) : ∃ c l, elems s.testBit 256 = c :: l ∧ c < 256 := by
  cases he : elems s.testBit 256 with
  | cons c l => exact ⟨c, l, rfl, elems_lt (p := s.testBit) (m := 256) (by rw [he]; simp)⟩
  | nil =>
    exfalso
    have h0 : ∀ i, i < 4 → word s.testBit i = 0 := fun i hi => by
      rw [← word_none i]
      refine word_congr fun j hj => ?_
      cases hb : s.testBit (64 * i + j) with
      | false => rfl
      | true =>
        have : 64 * i + j ∈ elems s.testBit 256 := by
          unfold elems
          rw [List.mem_filter]
          exact ⟨by rw [List.mem_range]; omega, hb⟩
        rw [he] at this
        cases this
    unfold isNoSet at h
    simp [h0 0 (by decide), h0 1 (by decide), h0 2 (by decide), h0 3 (by decide)] at h
theorem word_nilout (w w' : World) (hb : Below w.heap.size w w') : WordOut [] w (.returned (.slice none 0 0)) w' := ⟨none, 0, rfl, ⟨(fun c hc => by cases hc), Nat.zero_le _, (fun h => absurd h (by decide))⟩, hb, (fun h => absurd h (by decide))⟩
set_option maxHeartbeats 2000000 in
theorem least_nil2 (x : Nd) (hk : x.kind = 2) (B : Option Addr) (cap : Nat) (w : World) :
    Calls Tryz.prog 62 #[ndV x B cap] w (WordOut [] w) := by
  have hb : Below w.heap.size w (w.alloc (.cells #[.int .i64 x.kind, .int .u64 ((word (x.set.testBit) 0 : Nat) : Int), .int .u64 ((word (x.set.testBit) 1 : Nat) : Int), .int .u64 ((word (x.set.testBit) 2 : Nat) : Int), .int .u64 ((word (x.set.testBit) 3 : Nat) : Int), .slice B x.kids.len cap, .int .i64 x.lo, .int .i64 x.hi] 28)) := (Below.refl _ _).alloc (Nat.le_refl _) _
  have HB := Lib.hid hb
  have HN := Lib.hid (Blk.new w 28 #[.int .i64 x.kind, .int .u64 ((word (x.set.testBit) 0 : Nat) : Int), .int .u64 ((word (x.set.testBit) 1 : Nat) : Int), .int .u64 ((word (x.set.testBit) 2 : Nat) : Int), .int .u64 ((word (x.set.testBit) 3 : Nat) : Int), .slice B x.kids.len cap, .int .i64 x.lo, .int .i64 x.hi])
  clear hb
  unfold ndV
  rw [hk] at HN HB ⊢
  go_enter Tryz.func62, Tryz.ntmps62
  go_upto_region 1 with fail
  generalize w.alloc (.cells #[.int .i64 2, .int .u64 ((word (x.set.testBit) 0 : Nat) : Int), .int .u64 ((word (x.set.testBit) 1 : Nat) : Int), .int .u64 ((word (x.set.testBit) 2 : Nat) : Int), .int .u64 ((word (x.set.testBit) 3 : Nat) : Int), .slice B x.kids.len cap, .int .i64 x.lo, .int .i64 x.hi] 28) = w2 at *
  obtain ⟨n0, n1, n2, n3, n4, n5, n6, n7⟩ := ((HN.out)).c8r
  have hln := (HN.out).lt
  go_wp2
  go_light
  go_ret
  exact word_nilout w w2 HB.out
set_option maxHeartbeats 2000000 in
theorem least_nil6 (x : Nd) (hk : x.kind = 6) (B : Option Addr) (cap : Nat) (w : World) :
    Calls Tryz.prog 62 #[ndV x B cap] w (WordOut [] w) := by
  have hb : Below w.heap.size w (w.alloc (.cells #[.int .i64 x.kind, .int .u64 ((word (x.set.testBit) 0 : Nat) : Int), .int .u64 ((word (x.set.testBit) 1 : Nat) : Int), .int .u64 ((word (x.set.testBit) 2 : Nat) : Int), .int .u64 ((word (x.set.testBit) 3 : Nat) : Int), .slice B x.kids.len cap, .int .i64 x.lo, .int .i64 x.hi] 28)) := (Below.refl _ _).alloc (Nat.le_refl _) _
  have HB := Lib.hid hb
  have HN := Lib.hid (Blk.new w 28 #[.int .i64 x.kind, .int .u64 ((word (x.set.testBit) 0 : Nat) : Int), .int .u64 ((word (x.set.testBit) 1 : Nat) : Int), .int .u64 ((word (x.set.testBit) 2 : Nat) : Int), .int .u64 ((word (x.set.testBit) 3 : Nat) : Int), .slice B x.kids.len cap, .int .i64 x.lo, .int .i64 x.hi])
  clear hb
  unfold ndV
  rw [hk] at HN HB ⊢
  go_enter Tryz.func62, Tryz.ntmps62
  go_upto_region 1 with fail
  generalize w.alloc (.cells #[.int .i64 6, .int .u64 ((word (x.set.testBit) 0 : Nat) : Int), .int .u64 ((word (x.set.testBit) 1 : Nat) : Int), .int .u64 ((word (x.set.testBit) 2 : Nat) : Int), .int .u64 ((word (x.set.testBit) 3 : Nat) : Int), .slice B x.kids.len cap, .int .i64 x.lo, .int .i64 x.hi] 28) = w2 at *
  obtain ⟨n0, n1, n2, n3, n4, n5, n6, n7⟩ := ((HN.out)).c8r
  have hln := (HN.out).lt
  go_wp2
  go_light
  go_ret
  exact word_nilout w w2 HB.out
set_option maxHeartbeats 2000000 in
theorem least_nil8 (x : Nd) (hk : x.kind = 8) (B : Option Addr) (cap : Nat) (w : World) :
    Calls Tryz.prog 62 #[ndV x B cap] w (WordOut [] w) := by
  have hb : Below w.heap.size w (w.alloc (.cells #[.int .i64 x.kind, .int .u64 ((word (x.set.testBit) 0 : Nat) : Int), .int .u64 ((word (x.set.testBit) 1 : Nat) : Int), .int .u64 ((word (x.set.testBit) 2 : Nat) : Int), .int .u64 ((word (x.set.testBit) 3 : Nat) : Int), .slice B x.kids.len cap, .int .i64 x.lo, .int .i64 x.hi] 28)) := (Below.refl _ _).alloc (Nat.le_refl _) _
  have HB := Lib.hid hb
  have HN := Lib.hid (Blk.new w 28 #[.int .i64 x.kind, .int .u64 ((word (x.set.testBit) 0 : Nat) : Int), .int .u64 ((word (x.set.testBit) 1 : Nat) : Int), .int .u64 ((word (x.set.testBit) 2 : Nat) : Int), .int .u64 ((word (x.set.testBit) 3 : Nat) : Int), .slice B x.kids.len cap, .int .i64 x.lo, .int .i64 x.hi])
  clear hb
  unfold ndV
  rw [hk] at HN HB ⊢
  go_enter Tryz.func62, Tryz.ntmps62
  go_upto_region 1 with fail
  generalize w.alloc (.cells #[.int .i64 8, .int .u64 ((word (x.set.testBit) 0 : Nat) : Int), .int .u64 ((word (x.set.testBit) 1 : Nat) : Int), .int .u64 ((word (x.set.testBit) 2 : Nat) : Int), .int .u64 ((word (x.set.testBit) 3 : Nat) : Int), .slice B x.kids.len cap, .int .i64 x.lo, .int .i64 x.hi] 28) = w2 at *
  obtain ⟨n0, n1, n2, n3, n4, n5, n6, n7⟩ := ((HN.out)).c8r
  have hln := (HN.out).lt
  go_wp2
  go_light
  go_ret
  exact word_nilout w w2 HB.out
set_option maxHeartbeats 2000000 in
theorem least_rep0 (x : Nd) (hk : x.kind = 9) (h0 : x.lo = 0) (B : Option Addr) (cap : Nat) (w : World) :
    Calls Tryz.prog 62 #[ndV x B cap] w (WordOut [] w) := by
  have hb : Below w.heap.size w (w.alloc (.cells #[.int .i64 x.kind, .int .u64 ((word (x.set.testBit) 0 : Nat) : Int), .int .u64 ((word (x.set.testBit) 1 : Nat) : Int), .int .u64 ((word (x.set.testBit) 2 : Nat) : Int), .int .u64 ((word (x.set.testBit) 3 : Nat) : Int), .slice B x.kids.len cap, .int .i64 x.lo, .int .i64 x.hi] 28)) := (Below.refl _ _).alloc (Nat.le_refl _) _
  have HB := Lib.hid hb
  have HN := Lib.hid (Blk.new w 28 #[.int .i64 x.kind, .int .u64 ((word (x.set.testBit) 0 : Nat) : Int), .int .u64 ((word (x.set.testBit) 1 : Nat) : Int), .int .u64 ((word (x.set.testBit) 2 : Nat) : Int), .int .u64 ((word (x.set.testBit) 3 : Nat) : Int), .slice B x.kids.len cap, .int .i64 x.lo, .int .i64 x.hi])
  clear hb
  unfold ndV
  rw [hk, h0] at HN HB ⊢
  go_enter Tryz.func62, Tryz.ntmps62
  go_upto_region 1 with fail
  generalize w.alloc (.cells #[.int .i64 9, .int .u64 ((word (x.set.testBit) 0 : Nat) : Int), .int .u64 ((word (x.set.testBit) 1 : Nat) : Int), .int .u64 ((word (x.set.testBit) 2 : Nat) : Int), .int .u64 ((word (x.set.testBit) 3 : Nat) : Int), .slice B x.kids.len cap, .int .i64 0, .int .i64 x.hi] 28) = w2 at *
  obtain ⟨n0, n1, n2, n3, n4, n5, n6, n7⟩ := ((HN.out)).c8r
  have hln := (HN.out).lt
  go_wp2
  go_light
  go_ret
  exact word_nilout w w2 HB.out
theorem flat_takeW {L : List (List Nat)} {k : Nat} {w : List Nat} (h : L[k]? = some w) : (L.take (k + 1)).flatten = (L.take k).flatten ++ w := by rw [List.take_add_one, h]; simp
theorem flat_part (L : List (List Nat)) (k : Nat) : (L.take k).flatten.length ≤ L.flatten.length := by
  conv => rhs; rw [← List.take_append_drop k L, List.flatten_append, List.length_append]
  omega
theorem leasts_get {F : Trees} {k : Nat} {z : Nd} (h : F.list[k]? = some z) : F.leasts[k]? = some z.least := by rw [F.leasts_list, List.getElem?_map, h]; rfl
theorem sums_getW {F : Trees} {k : Nat} {z : Nd} (h : F.list[k]? = some z) : F.sums[k]? = some z.sum := by rw [F.sums_list, List.getElem?_map, h]; rfl
set_option maxHeartbeats 4000000 in
theorem least_cat (x : Nd) (hk : x.kind = 4) (hl : x.kids.len ≤ 140737488355328) (hp : ∀ (i : Nat) z, x.kids.list[i]? = some z → z.sum.hollow = false ∧ z.sum.short ≤ 2000) (hlen : x.kids.leasts.flatten.length ≤ 2000)
    (P : Nat → Prop) (B : Option Addr) (cap : Nat) (w : World) (ht : TreesAt w P x.kids B) (hG : KidLe x.kids P w) :
    Calls Tryz.prog 62 #[ndV x B cap] w (WordOut x.kids.leasts.flatten w) := by
  have hb : Below w.heap.size w (w.alloc (.cells #[.int .i64 x.kind, .int .u64 ((word (x.set.testBit) 0 : Nat) : Int), .int .u64 ((word (x.set.testBit) 1 : Nat) : Int), .int .u64 ((word (x.set.testBit) 2 : Nat) : Int), .int .u64 ((word (x.set.testBit) 3 : Nat) : Int), .slice B x.kids.len cap, .int .i64 x.lo, .int .i64 x.hi] 28)) := (Below.refl _ _).alloc (Nat.le_refl _) _
  have HB := Lib.hid hb
  have HN := Lib.hid (Blk.new w 28 #[.int .i64 x.kind, .int .u64 ((word (x.set.testBit) 0 : Nat) : Int), .int .u64 ((word (x.set.testBit) 1 : Nat) : Int), .int .u64 ((word (x.set.testBit) 2 : Nat) : Int), .int .u64 ((word (x.set.testBit) 3 : Nat) : Int), .slice B x.kids.len cap, .int .i64 x.lo, .int .i64 x.hi])
  have HT := Lib.hid (ht.below hb)
  have HG := Lib.hid (hG.later hb)
  have HP := Lib.hid hp
  have HL := Lib.hid hlen
  have HFl := Lib.hid (Trees.len_list x.kids)
  have HLs := Lib.hid (fun (k : Nat) (z : Nd) (h : x.kids.list[k]? = some z) => leasts_get h)
  have HLl := Lib.hid (show x.kids.leasts.length = x.kids.len by rw [Trees.leasts_list, List.length_map, Trees.len_list])
  have H256 := Lib.hid (leasts_bytes x.kids)
  clear hb ht hG hp hlen
  unfold ndV
  rw [hk] at HN HB HT HG ⊢
  generalize x.kids.leasts = L at *
  generalize x.kids.len = fl at *
  go_enter Tryz.func62, Tryz.ntmps62
  go_upto_region 1 with fail
  generalize w.alloc (.cells #[.int .i64 4, .int .u64 ((word (x.set.testBit) 0 : Nat) : Int), .int .u64 ((word (x.set.testBit) 1 : Nat) : Int), .int .u64 ((word (x.set.testBit) 2 : Nat) : Int), .int .u64 ((word (x.set.testBit) 3 : Nat) : Int), .slice B fl cap, .int .i64 x.lo, .int .i64 x.hi] 28) = w2 at *
  obtain ⟨n0, n1, n2, n3, n4, n5, n6, n7⟩ := ((HN.out)).c8r
  have hln := (HN.out).lt
  go_wp2
  clear n0 n1 n2 n3 n4 n5 n6 n7 hln
  go_loopw [3, 20] (fun u i wr => ∃ k : Nat, i = .int .i64 (k : Int) ∧ k ≤ fl ∧ Hid (wr.ownsRow w2.heap.size 5 1 u ((L.take k).flatten).length (((L.take k).flatten).map (fun n : Nat => Value.int .u8 (n : Int)))) ∧ Hid (Below w2.heap.size w2 wr)) (fun _ i _ => fl - (intOf i).toNat)
  case atStart => exact ⟨0, rfl, Nat.zero_le _, Lib.hid (World.ownsRow_nil _ _ _ _), Lib.hid (Below.refl _ _)⟩
  case round =>
    obtain ⟨k, rfl, hk, HR, HW⟩ := hrel
    by_cases hlt : k < fl
    · obtain ⟨z, hz⟩ : ∃ z, x.kids.list[k]? = some z := ⟨_, List.getElem?_eq_getElem (by rw [HFl.out]; exact hlt)⟩
      obtain ⟨b, o, C, capc, rfl, _, _, ⟨c0, c1, c2, c3, c4, c5, c6, c7⟩, hkz⟩ := (HT.out.below HW.out).get hz
      have hdl : (k : Int) < (fl : Int) := by omega
      have hb2 : Below wr.heap.size wr (wr.alloc (.cells #[.int .i64 z.kind, .int .u64 ((word (z.set.testBit) 0 : Nat) : Int), .int .u64 ((word (z.set.testBit) 1 : Nat) : Int), .int .u64 ((word (z.set.testBit) 2 : Nat) : Int), .int .u64 ((word (z.set.testBit) 3 : Nat) : Int), .slice C z.kids.len capc, .int .i64 z.lo, .int .i64 z.hi] 28)) := (Below.refl _ _).alloc (Nat.le_refl _) _
      obtain ⟨hz1, hz2⟩ := HP.out k z hz
      have HC := Lib.hid (HG.out k z C capc (wr.alloc (.cells #[.int .i64 z.kind, .int .u64 ((word (z.set.testBit) 0 : Nat) : Int), .int .u64 ((word (z.set.testBit) 1 : Nat) : Int), .int .u64 ((word (z.set.testBit) 2 : Nat) : Int), .int .u64 ((word (z.set.testBit) 3 : Nat) : Int), .slice C z.kids.len capc, .int .i64 z.lo, .int .i64 z.hi] 28)) hz hz1 hz2 (HW.out.trans (hb2.mono HW.out.size)) (hkz.below hb2))
      have HR2 := Lib.hid (HR.out.alloc (.cells #[.int .i64 z.kind, .int .u64 ((word (z.set.testBit) 0 : Nat) : Int), .int .u64 ((word (z.set.testBit) 1 : Nat) : Int), .int .u64 ((word (z.set.testBit) 2 : Nat) : Int), .int .u64 ((word (z.set.testBit) 3 : Nat) : Int), .slice C z.kids.len capc, .int .i64 z.lo, .int .i64 z.hi] 28))
      have HW2 := Lib.hid (HW.out.trans (hb2.mono HW.out.size))
      have hgz := HLs.out k z hz
      have HF := Lib.hid (flat_takeW hgz)
      have HFp := Lib.hid (flat_part L (k + 1))
      clear hz hz1 hz2 hkz hb2 hgz HR HW
      unfold ndV at HC
      generalize (L.take k).flatten = acc at *
      generalize z.least = bs at *
      go_wp2_with fail
      refine HC.out.mono ?_
      rintro e w4 ⟨A4, k4, rfl, hA4, hb4, _⟩
      have hR4 := own_below HR2.out hb4
      have HW4 := Lib.hid (HW2.out.trans (hb4.mono HW2.out.size))
      obtain ⟨v5, w5, hrun, hown5, hgrow5⟩ := append_own_bytes w4 w2.heap.size u3 acc hR4 k4 hA4 (by have := HFp.out; rw [HF.out, List.length_append] at this; have := HL.out; omega) HW4.out.size 88 88 Tryz.underlying88
      have HR5 := Lib.hid hown5
      have HW5 := Lib.hid (below_grown HW4.out hgrow5 hR4 (Nat.le_refl _) HW4.out.size)
      clear hR4 hown5 hgrow5 hA4 hb4 HC c0 c1 c2 c3 c4 c5 c6 c7
      dsimp only
      go_wp2_with (at_builtin; refine wpList_append_by rfl _ _ 88 88 rfl _ _ _ _ rfl rfl hrun ?_)
      clear hrun
      go_light
      go_roundw
      case rel => exact ⟨k + 1, by go_num, by omega, Lib.hid (by rw [HF.out]; exact HR5.out), HW5⟩
      case measure => simp [intOf]; omega
    · have hdl : ¬ (k : Int) < (fl : Int) := by omega
      obtain rfl : k = fl := by omega
      have hta : L.take k = L := List.take_of_length_le (Nat.le_of_eq HLl.out)
      rw [hta] at HR
      have h6 := flat_bytes H256.out
      have hfl := HL.out
      clear HL H256 HP HG hta
      generalize L.flatten = fw at *
      obtain ⟨A5, cap5, rfl, h5, h7⟩ := own_bytesat HR.out h6 (by omega)
      have HN5 := Lib.hid (show ∀ a, A5 = some a → w.heap.size ≤ a.block from fun a e => Nat.le_trans HB.out.size (h7 a e))
      clear h7
      have HA5 := Lib.hid h5
      have HB5 := Lib.hid (HB.out.trans (HW.out.mono HB.out.size))
      clear HR h5 h6
      go_wp2
      go_light
      go_ret
      exact ⟨A5, cap5, rfl, HA5.out, HB5.out, fun _ => HN5.out⟩
theorem nodes_getW : ∀ {F : Trees} {k : Nat} {z : Nd}, F.list[k]? = some z → ∀ y ∈ z.nodes, y ∈ F.nodes
  | .nil, k, z, h, y, hy => by simp [Trees.list] at h
  | .cons a s ks lo hi r, 0, z, h, y, hy => by
    simp [Trees.list] at h
    subst h
    simp only [Nd.nodes, List.mem_cons] at hy
    simp only [Trees.nodes, List.mem_cons, List.mem_append]
    rcases hy with rfl | hy
    · exact .inl rfl
    · exact .inr (.inl hy)
  | .cons a s ks lo hi r, k + 1, z, h, y, hy => by
    have := nodes_getW (F := r) (k := k) (z := z) (by simpa [Trees.list] using h) y hy
    simp only [Trees.nodes, List.mem_cons, List.mem_append]
    exact .inr (.inr this)
/-- The shortest length so far, as leastOf reckons it. -/
def shortF (S : List SumS) : Int := S.foldl (fun m s => if 0 ≤ s.short then min m s.short else m) endF
theorem short_fold : ∀ (S : List SumS) (a : SumS) (m : Int), SumOk a → (∀ s ∈ S, SumOk s) → (m = if a.hollow = true then endF else a.short) → S.foldl (fun m s => if 0 ≤ s.short then min m s.short else m) m = if (S.foldl eitherF a).hollow = true then endF else (S.foldl eitherF a).short
  | [], a, m, _, _, h => h
  | s :: S, a, m, ha, hS, h => by
    rw [List.foldl_cons, List.foldl_cons]
    have hs := hS s (by simp)
    refine short_fold S _ _ (ok_either ha hs) (fun t ht => hS t (by simp [ht])) ?_
    have htop : topI < endF := by decide
    cases h1 : a.hollow with
    | true =>
      rw [h1, if_pos rfl] at h
      rw [either_left h1]
      cases h2 : s.hollow with
      | true =>
        have : s.short = -1 := by rw [hs.none h2]; rfl
        rw [if_neg (by omega), if_pos rfl, h]
      | false =>
        have := hs.short h2
        rw [if_pos this.1, if_neg (by decide), h]
        omega
    | false =>
      rw [h1, if_neg (by decide)] at h
      cases h2 : s.hollow with
      | true =>
        have : s.short = -1 := by rw [hs.none h2]; rfl
        rw [either_right h1 h2, if_neg (by omega), h1, if_neg (by decide), h]
      | false =>
        have := hs.short h2
        rw [either_full h1 h2, if_pos this.1, h]
        rfl
theorem shortF_eq {S : List SumS} (hS : ∀ s ∈ S, SumOk s) (h : (S.foldl eitherF nothingF).hollow = false) : shortF S = (S.foldl eitherF nothingF).short := by
  unfold shortF
  rw [short_fold S nothingF endF ok_nothing hS (by rfl), if_neg (by rw [h]; decide)]
theorem shortF_take {S : List SumS} {k : Nat} {s : SumS} (h : S[k]? = some s) : shortF (S.take (k + 1)) = if 0 ≤ s.short then min (shortF (S.take k)) s.short else shortF (S.take k) := by
  unfold shortF
  rw [take_snocS h, List.foldl_append]
  rfl
theorem pick_take {m : Int} : ∀ {S : List SumS} {L : List (List Nat)} {k : Nat} {s : SumS} {w : List Nat}, S[k]? = some s → L[k]? = some w → pick m (S.take (k + 1)) (L.take (k + 1)) = pick m (S.take k) (L.take k) ++ (if s.short = m then [w] else [])
  | [], _, k, s, w, h, _ => by simp at h
  | _ :: _, [], k, s, w, _, h => by simp at h
  | a :: S, b :: L, 0, s, w, h, h2 => by
    simp at h h2
    subst h h2
    simp [pick]
  | a :: S, b :: L, k + 1, s, w, h, h2 => by
    have ih := pick_take (m := m) (S := S) (L := L) (k := k) (s := s) (w := w) (by simpa using h) (by simpa using h2)
    simp only [List.take_succ_cons, pick]
    by_cases ha : a.short = m
    · rw [if_pos ha, if_pos ha, ih, List.cons_append]
    · rw [if_neg ha, if_neg ha, ih]
set_option maxHeartbeats 8000000 in
theorem leastOf_go (F : Trees) (hl : F.len ≤ 2000000) (hsz : F.size ≤ 140737488355327) (ho : ∀ y ∈ F.nodes, aloneN y = true) (hh : (F.sums.foldl eitherF nothingF).hollow = false) (h2 : (F.sums.foldl eitherF nothingF).short ≤ 2000)
    (P : Nat → Prop) (B : Option Addr) (cap : Nat) (w : World) (ht : TreesAt w P F B) (hG : KidLe F P w) :
    Calls Tryz.prog 107 #[.slice B F.len cap] w (WordOut (minW (pick (F.sums.foldl eitherF nothingF).short F.sums F.leasts)) w) := by
  have hS := ok_sums F ho
  obtain ⟨h0, ⟨t, ht1, ht2, ht3⟩, _⟩ := alt_short hS hh
  have HN := Lib.hid (pick_some F.sums F.leasts (leasts_len F ho) ⟨t, ht1, ht3⟩)
  have HSH := Lib.hid (shortF_eq hS hh)
  have HNO := Lib.hid (fun (s : SumS) (o : SumOk s) (h : s.short = (F.sums.foldl eitherF nothingF).short) => nothing_no o h0 h)
  have HT := Lib.hid ht
  have HG := Lib.hid hG
  have HO := Lib.hid (fun (k : Nat) (z : Nd) (hz : F.list[k]? = some z) (W : World) (C : Option Addr) (c : Nat) (h : TreesAt W P z.kids C) => of_go z P C c W (by have := Trees.size_get F k z hz; omega) (fun y hy => ho y (nodes_getW hz y hy)) h)
  have HOK := Lib.hid (fun (k : Nat) (z : Nd) (hz : F.list[k]? = some z) => ok_sum (x := z) (fun y hy => ho y (nodes_getW hz y hy)))
  have HFl := Lib.hid (Trees.len_list F)
  have HLs := Lib.hid (fun (k : Nat) (z : Nd) (h : F.list[k]? = some z) => leasts_get h)
  have HSs := Lib.hid (fun (k : Nat) (z : Nd) (h : F.list[k]? = some z) => sums_getW h)
  have HSl := Lib.hid (show F.sums.length = F.len by rw [Trees.sums_list, List.length_map, Trees.len_list])
  have HLl := Lib.hid (show F.leasts.length = F.len by rw [Trees.leasts_list, List.length_map, Trees.len_list])
  clear hS ht1 ht2 ht3 ht hG ho hh hsz
  generalize (F.sums.foldl eitherF nothingF).short = m at *
  generalize F.sums = S at *
  generalize F.leasts = L at *
  generalize F.len = fl at *
  have hpl : ∀ k, (pick m (S.take k) (L.take k)).length ≤ k := by
    have hp : ∀ (S : List SumS) (L : List (List Nat)), (pick m S L).length ≤ S.length := by
      intro S
      induction S with
      | nil => intro L; simp [pick]
      | cons s S ih =>
        intro L
        cases L with
        | nil => simp [pick]
        | cons v L =>
          rw [pick]
          have := ih L
          split <;> simp <;> omega
    exact fun k => Nat.le_trans (hp _ _) (by rw [List.length_take]; omega)
  have HPL := Lib.hid hpl
  clear hpl t
  obtain ⟨i0, hi, hz0, hz1, hz2⟩ := info_parts info_word
  go_enter Tryz.func107, Tryz.ntmps107
  go_wp2
  go_loopw [3, 12] (fun s i wr => ∃ k : Nat, i = .int .i64 (k : Int) ∧ k ≤ fl ∧ s = .int .i64 (shortF (S.take k)) ∧ Hid (Below w.heap.size w wr)) (fun _ i _ => fl - (intOf i).toNat)
  case atStart => exact ⟨0, rfl, Nat.zero_le _, rfl, Lib.hid (Below.refl _ _)⟩
  case round =>
    obtain ⟨k, rfl, hk, rfl, HW⟩ := hrel
    by_cases hlt : k < fl
    · obtain ⟨z, hz⟩ : ∃ z, F.list[k]? = some z := ⟨_, List.getElem?_eq_getElem (by rw [HFl.out]; exact hlt)⟩
      obtain ⟨b, o, C, capc, rfl, _, _, ⟨c0, c1, c2, c3, c4, c5, c6, c7⟩, hkz⟩ := (HT.out.below HW.out).get hz
      have hdl : (k : Int) < (fl : Int) := by omega
      have hb2 : Below wr.heap.size wr (wr.alloc (.cells #[.int .i64 z.kind, .int .u64 ((word (z.set.testBit) 0 : Nat) : Int), .int .u64 ((word (z.set.testBit) 1 : Nat) : Int), .int .u64 ((word (z.set.testBit) 2 : Nat) : Int), .int .u64 ((word (z.set.testBit) 3 : Nat) : Int), .slice C z.kids.len capc, .int .i64 z.lo, .int .i64 z.hi] 28)) := (Below.refl _ _).alloc (Nat.le_refl _) _
      have HC := Lib.hid (HO.out k z hz (wr.alloc (.cells #[.int .i64 z.kind, .int .u64 ((word (z.set.testBit) 0 : Nat) : Int), .int .u64 ((word (z.set.testBit) 1 : Nat) : Int), .int .u64 ((word (z.set.testBit) 2 : Nat) : Int), .int .u64 ((word (z.set.testBit) 3 : Nat) : Int), .slice C z.kids.len capc, .int .i64 z.lo, .int .i64 z.hi] 28)) C capc (hkz.below hb2))
      have HW2 := Lib.hid (HW.out.trans (hb2.mono HW.out.size))
      have HF := Lib.hid (shortF_take (HSs.out k z hz))
      clear hz hkz hb2 HW
      unfold ndV at HC
      generalize shortF (S.take k) = q at *
      go_wp2_with fail
      refine HC.out.mono ?_
      rintro e w4 ⟨rfl, hb4⟩
      have HW4 := Lib.hid (HW2.out.trans (hb4.mono HW2.out.size))
      clear hb4 HC c0 c1 c2 c3 c4 c5 c6 c7
      unfold sumV sumA
      generalize z.sum.short = zs at *
      dsimp only
      by_cases hzs : 0 ≤ zs
      · have HF2 := Lib.hid (HF.out.trans (if_pos hzs))
        go_wp2
        go_light
        go_roundw
        case rel => exact ⟨k + 1, by go_num, by omega, by rw [HF2.out], HW4⟩
        case measure => simp [intOf]; omega
      · have HF2 := Lib.hid (HF.out.trans (if_neg hzs))
        have hzs2 : ¬ (0 : Int) ≤ zs := hzs
        go_wp2
        go_light
        go_roundw
        case rel => exact ⟨k + 1, by go_num, by omega, by rw [HF2.out], HW4⟩
        case measure => simp [intOf]; omega
    · have hdl : ¬ (k : Int) < (fl : Int) := by omega
      obtain rfl : k = fl := by omega
      rw [List.take_of_length_le (Nat.le_of_eq HSl.out), HSH.out]
      have HW1 := HW
      clear HW HSH
      go_wp2
      go_loopw [7, 27] (fun u i wr => ∃ (j : Nat) (vs : List Value), i = .int .i64 (j : Int) ∧ j ≤ k ∧ Hid (wr.ownsRow w.heap.size 88 1 u (pick m (S.take j) (L.take j)).length vs) ∧ Hid (WordsAre wr (fun b => w.heap.size ≤ b ∧ some b ≠ u.ownBlock) vs (pick m (S.take j) (L.take j))) ∧ Hid (Below w.heap.size w wr)) (fun _ i _ => k - (intOf i).toNat)
      case atStart => exact ⟨0, [], rfl, Nat.zero_le _, Lib.hid (by simp only [List.take_zero]; exact World.ownsRow_nil _ _ _ _), Lib.hid trivial, HW1⟩
      case round =>
        clear HW1
        obtain ⟨j, vs, rfl, hj, HR, HV, HW⟩ := hrel
        by_cases hlt : j < k
        · obtain ⟨z, hz⟩ : ∃ z, F.list[j]? = some z := ⟨_, List.getElem?_eq_getElem (by rw [HFl.out]; exact hlt)⟩
          obtain ⟨b, o, C, capc, rfl, _, _, ⟨c0, c1, c2, c3, c4, c5, c6, c7⟩, hkz⟩ := (HT.out.below HW.out).get hz
          have hdl : (j : Int) < (k : Int) := by omega
          have hb2 : Below wr.heap.size wr (wr.alloc (.cells #[.int .i64 z.kind, .int .u64 ((word (z.set.testBit) 0 : Nat) : Int), .int .u64 ((word (z.set.testBit) 1 : Nat) : Int), .int .u64 ((word (z.set.testBit) 2 : Nat) : Int), .int .u64 ((word (z.set.testBit) 3 : Nat) : Int), .slice C z.kids.len capc, .int .i64 z.lo, .int .i64 z.hi] 28)) := (Below.refl _ _).alloc (Nat.le_refl _) _
          have HC := Lib.hid (HO.out j z hz (wr.alloc (.cells #[.int .i64 z.kind, .int .u64 ((word (z.set.testBit) 0 : Nat) : Int), .int .u64 ((word (z.set.testBit) 1 : Nat) : Int), .int .u64 ((word (z.set.testBit) 2 : Nat) : Int), .int .u64 ((word (z.set.testBit) 3 : Nat) : Int), .slice C z.kids.len capc, .int .i64 z.lo, .int .i64 z.hi] 28)) C capc (hkz.below hb2))
          have HX := Lib.hid (Blk.new wr 28 #[.int .i64 z.kind, .int .u64 ((word (z.set.testBit) 0 : Nat) : Int), .int .u64 ((word (z.set.testBit) 1 : Nat) : Int), .int .u64 ((word (z.set.testBit) 2 : Nat) : Int), .int .u64 ((word (z.set.testBit) 3 : Nat) : Int), .slice C z.kids.len capc, .int .i64 z.lo, .int .i64 z.hi])
          have HW2 := Lib.hid (HW.out.trans (hb2.mono HW.out.size))
          have HR2 := Lib.hid (HR.out.alloc (.cells #[.int .i64 z.kind, .int .u64 ((word (z.set.testBit) 0 : Nat) : Int), .int .u64 ((word (z.set.testBit) 1 : Nat) : Int), .int .u64 ((word (z.set.testBit) 2 : Nat) : Int), .int .u64 ((word (z.set.testBit) 3 : Nat) : Int), .slice C z.kids.len capc, .int .i64 z.lo, .int .i64 z.hi] 28))
          have HV2 := Lib.hid (HV.out.below hb2)
          have HPT := Lib.hid (pick_take (m := m) (HSs.out j z hz) (HLs.out j z hz))
          have HZ := Lib.hid hz
          have HKZ := Lib.hid (hkz.below hb2)
          have hpj := HPL.out j
          clear hz hkz hb2 HW HR HV
          unfold ndV at HC
          generalize pick m (S.take j) (L.take j) = acc at *
          go_wp2_with fail
          refine HC.out.mono ?_
          rintro e w4 ⟨rfl, hb4⟩
          have HX4 := Lib.hid (HX.out.below hb4 HX.out.lt)
          have HW4 := Lib.hid (HW2.out.trans (hb4.mono HW2.out.size))
          have HR4 := Lib.hid (own_below HR2.out hb4)
          have HV4 := Lib.hid (HV2.out.below hb4)
          have HK4 := Lib.hid (HKZ.out.below hb4)
          clear hb4 HC c0 c1 c2 c3 c4 c5 c6 c7 HX HR2 HV2 HKZ HW2
          unfold sumV sumA
          by_cases hzs : z.sum.short = m
          · have HC := Lib.hid (HG.out j z C capc w4 HZ.out (HNO.out _ (HOK.out j z HZ.out) hzs) (by omega) HW4.out HK4.out)
            have HP2 := Lib.hid (HPT.out.trans (by rw [if_pos hzs]))
            rw [hzs]
            clear hzs
            unfold ndV at HC
            obtain ⟨n0, n1, n2, n3, n4, n5, n6, n7⟩ := ((HX4.out)).c8r
            have hln := (HX4.out).lt
            dsimp only
            go_wp2_with fail
            refine HC.out.mono ?_
            rintro e w5 ⟨A5, k5, rfl, hA5, hb5, hn5⟩
            have hl4 := (HR4.out).lt
            have HWI := Lib.hid (show WordIs w5 (fun b => w.heap.size ≤ b ∧ some b ≠ u7.ownBlock) (.slice A5 z.least.length k5) z.least from ⟨A5, k5, rfl, hA5, fun h a e => ⟨Nat.le_trans HW4.out.size (hn5 h a e), fun e2 => by have := (hl4 _ e2.symm).2; have := hn5 h a e; omega⟩⟩)
            have HW5 := Lib.hid (HW4.out.trans (hb5.mono HW4.out.size))
            have HR5 := Lib.hid (own_below HR4.out hb5)
            have HV5 := Lib.hid (HV4.out.below hb5)
            have HA5 := Lib.hid hA5
            have hws5 : w.heap.size ≤ w5.heap.size := HW5.out.size
            clear n0 n1 n2 n3 n4 n5 n6 n7 hln
            have HL5 := Lib.hid (HR5.out).lt
            clear hb5 hA5 hn5 hl4 HC HR4 HV4 HW4 HK4 HX4
            have h63 : acc.length + 1 ≤ maxLen := Nat.le_trans (by omega) (show 4000000 ≤ maxLen by decide)
            have hby : (acc.length + 1) * 24 ≤ 140737488355328 := by omega
            generalize z.least = bs at *
            generalize hbl : bs.length = bl at *
            have HBL := Lib.hid hbl
            clear hbl
            dsimp only
            go_wp2_with (at_builtin; refine wpList_append_lies _ rfl _ _ 192 rfl w.heap.size 88 i0 _ 1 24 Tryz.underlying192 hi hz0 hz1 hz2 rfl (by decide) u7 acc.length vs rfl (HR5.out.alloc _) ⟨w5.heap.size, 0, none⟩ 1 1 [.slice A5 bl k5] rfl rfl (World.news_of_block (Blk.new_at (cs := #[.slice A5 bl k5]) (t := 88) (by simp))) (by simp [Value.oneCell']) (by decide) h63 hby (by simp; omega) (w5.heap.size + 1) (by simp) ?_; intro gg capg w6 hown6 hgrow6 hat6 hg6; have HO6 := Lib.hid hown6; have HG6 := Lib.hid hgrow6; have HT6 := Lib.hid hat6; clear hown6 hgrow6 hat6)
            have HV6 : Hid (WordsAre w6 (fun b => w.heap.size ≤ b ∧ some b ≠ (Value.slice (some ⟨gg, 0, none⟩) (acc.length + 1) capg).ownBlock) (vs ++ [.slice A5 bl k5]) (acc ++ [bs])) := Lib.hid (by
              have h6 : WordsAre w5 (fun b => w.heap.size ≤ b ∧ some b ≠ u7.ownBlock) (vs ++ [.slice A5 bl k5]) (acc ++ [bs]) := WordsAre.snoc HWI.out HV5.out
              have hsz := HG6.out.size
              refine h6.keep (by simp at hsz; omega) (fun b hq hl => ⟨?_, hq.1, fun e => ?_⟩)
              · exact (HG6.out.block b (by simp; omega) hq.2).trans (Below.heap_alloc w5 _ b hl)
              · have e' : b = gg := by simpa [Value.ownBlock] using e
                rcases HT6.out with hh | hh
                · exact hq.2 (by rw [e', hh])
                · omega)
            have HW6 := Lib.hid ((HW5.out.alloc hws5 _).grown HG6.out (by simp; omega) (fun k e => (HL5.out k e).1))
            clear HWI HV5 HG6 HT6 HR5 HW5 HL5 hg6 h63 hby
            go_light
            go_roundw
            case rel => exact ⟨j + 1, _, by go_num, by omega, Lib.hid (by rw [HP2.out, List.length_append]; exact HO6.out), Lib.hid (by rw [HP2.out]; exact HV6.out), HW6⟩
            case measure => simp [intOf]; omega
          · have HP2 := Lib.hid (HPT.out.trans (by rw [if_neg hzs, List.append_nil]))
            have hzs2 : (z.sum.short == m) = false := by rw [beq_eq_false_iff_ne]; exact hzs
            clear hzs
            generalize z.sum.short = zs at *
            dsimp only
            go_wp2
            go_light
            go_roundw
            case rel => exact ⟨j + 1, vs, by go_num, by omega, Lib.hid (by rw [HP2.out]; exact HR4.out), Lib.hid (by rw [HP2.out]; exact HV4.out), HW4⟩
            case measure => simp [intOf]; omega
        · have hdl : ¬ (j : Int) < (k : Int) := by omega
          obtain rfl : j = k := by omega
          rw [List.take_of_length_le (Nat.le_of_eq HSl.out), List.take_of_length_le (Nat.le_of_eq HLl.out)] at HR HV
          have hpj : (pick m S L).length ≤ 2000000 := by
            have := HPL.out j
            rw [List.take_of_length_le (Nat.le_of_eq HSl.out), List.take_of_length_le (Nat.le_of_eq HLl.out)] at this
            omega
          generalize pick m S L = acc at *
          obtain ⟨gq, cq, rfl, _, _⟩ := own_form HR.out (List.length_pos_iff.2 HN.out)
          have HC := Lib.hid (minf_go gq cq vs acc wr HN.out hpj _ HV.out (fun j u hu => by
            have := HR.out.cells (g := gq) rfl j u hu
            have e2 : (⟨gq, 0, none⟩ : Addr).add j = ⟨gq, 0 + j, none⟩ := by unfold Addr.add; split <;> simp_all
            rw [e2, Nat.zero_add] at this
            exact this))
          clear hpj
          go_wp2_with fail
          refine HC.out.mono ?_
          rintro e w7 ⟨A7, k7, rfl, hA7, hb7, hn7⟩
          have HA7 := Lib.hid hA7
          have HN7 := Lib.hid (show 0 < (minW acc).length → ∀ a, A7 = some a → w.heap.size ≤ a.block from fun h a e => (hn7 h a e).1)
          clear hn7
          have HB7 := Lib.hid (HW.out.trans (hb7.mono HW.out.size))
          clear hA7 hb7 HC
          generalize minW acc = mw at *
          dsimp only
          go_wp2
          go_light
          go_ret
          exact ⟨A7, k7, rfl, HA7.out, HB7.out, HN7.out⟩
set_option maxHeartbeats 4000000 in
theorem least_rep (x z : Nd) (n : Nat) (hk : x.kind = 9) (hlo : x.lo = (n : Int)) (h0 : 0 < n) (h1 : n ≤ 1000) (hz : x.kids.list[0]? = some z) (hk1 : x.kids.len = 1) (hT : z.least.length * n ≤ 8192) (P : Nat → Prop) (B : Option Addr) (cap : Nat) (w : World) (ht : TreesAt w P x.kids B)
    (hC : ∀ W C capc, Below w.heap.size w W → TreesAt W P z.kids C → Calls Tryz.prog 62 #[ndV z C capc] W (WordOut z.least W)) :
    Calls Tryz.prog 62 #[ndV x B cap] w (WordOut (repW n z.least) w) := by
  have hb : Below w.heap.size w (w.alloc (.cells #[.int .i64 x.kind, .int .u64 ((word (x.set.testBit) 0 : Nat) : Int), .int .u64 ((word (x.set.testBit) 1 : Nat) : Int), .int .u64 ((word (x.set.testBit) 2 : Nat) : Int), .int .u64 ((word (x.set.testBit) 3 : Nat) : Int), .slice B x.kids.len cap, .int .i64 x.lo, .int .i64 x.hi] 28)) := (Below.refl _ _).alloc (Nat.le_refl _) _
  have HB := Lib.hid hb
  have HN := Lib.hid (Blk.new w 28 #[.int .i64 x.kind, .int .u64 ((word (x.set.testBit) 0 : Nat) : Int), .int .u64 ((word (x.set.testBit) 1 : Nat) : Int), .int .u64 ((word (x.set.testBit) 2 : Nat) : Int), .int .u64 ((word (x.set.testBit) 3 : Nat) : Int), .slice B x.kids.len cap, .int .i64 x.lo, .int .i64 x.hi])
  have HT := Lib.hid (ht.below hb)
  have HCC := Lib.hid hC
  have HK1 := Lib.hid hk1
  have HTT := Lib.hid hT
  have hn0 : ((n : Int) == 0) = false := by rw [beq_eq_false_iff_ne]; omega
  clear hb hC ht hk1 hT
  unfold ndV
  rw [hk, hlo] at HN HB HT ⊢
  go_enter Tryz.func62, Tryz.ntmps62
  go_upto_region 1 with fail
  generalize w.alloc (.cells #[.int .i64 9, .int .u64 ((word (x.set.testBit) 0 : Nat) : Int), .int .u64 ((word (x.set.testBit) 1 : Nat) : Int), .int .u64 ((word (x.set.testBit) 2 : Nat) : Int), .int .u64 ((word (x.set.testBit) 3 : Nat) : Int), .slice B x.kids.len cap, .int .i64 (n : Int), .int .i64 x.hi] 28) = w2 at *
  have hk1 := HK1.out
  obtain ⟨b, o, C, capc, rfl, _, _, ⟨c0, c1, c2, c3, c4, c5, c6, c7⟩, hkz⟩ := HT.out.get hz
  simp only [Nat.zero_mul, Nat.add_zero] at c0 c1 c2 c3 c4 c5 c6 c7
  have hlb := World.block_lt_of_cell? w2 _ c0
  have HC := Lib.hid (fun (W : World) (hW : Below w2.heap.size w2 W) => HCC.out W C capc (HB.out.trans (hW.mono HB.out.size)) (hkz.below hW))
  unfold ndV at HC
  clear hkz hz
  obtain ⟨n0, n1, n2, n3, n4, n5, n6, n7⟩ := ((HN.out)).c8r
  have hln := (HN.out).lt
  generalize z.least = bs at *
  go_upto_region 19 with fail
  have hKl : ∀ b', (b' = w.heap.size ∨ b' = b) → b' < w2.heap.size := fun b' h => h.elim (fun e => e ▸ hln) (fun e => e ▸ hlb)
  refine wp_region_held_drew (S := fun w' => ∀ b' o', b' = w.heap.size ∨ b' = b → w'.cell? ⟨b', o', none⟩ = w2.cell? ⟨b', o', none⟩) (by kernel_rfl) (KeepP.start (fun b' => b' = w.heap.size ∨ b' = b) w2) (fun hHeld => ?_)
  refine wpAnyH_take (i := 0) (oi := _) (v := ?_) rfl (by kernel_rfl) (by kernel_rfl) (by kernel_rfl) (fun _ _ _ h => h) (Or.inl ⟨by kernel_rfl, ?_⟩) (by assumption) ?_
  rotate_left
  · intro w hSw
    try dsimp only at hSw
    go_simp
    try (with_reducible rfl)
  try simp only [Act.put, List.getElem_toArray, List.getElem_cons_zero, List.getElem_cons_succ, List.setIfInBounds_toArray, List.set_cons_zero, List.set_cons_succ]
  refine wpAnyH_take (i := 1) (oi := _) (v := ?_) rfl (by kernel_rfl) (by kernel_rfl) (by kernel_rfl) (fun _ _ _ h => h) (Or.inl ⟨by kernel_rfl, ?_⟩) (by assumption) ?_
  rotate_left
  · intro w hSw
    try dsimp only at hSw
    go_simp
    try (with_reducible rfl)
  try simp only [Act.put, List.getElem_toArray, List.getElem_cons_zero, List.getElem_cons_succ, List.setIfInBounds_toArray, List.set_cons_zero, List.set_cons_succ]
  refine wpAnyH_take (i := 2) (oi := _) (v := ?_) rfl (by kernel_rfl) (by kernel_rfl) (by kernel_rfl) (fun _ _ _ h => h) (Or.inl ⟨by kernel_rfl, ?_⟩) (by assumption) ?_
  rotate_left
  · intro w hSw
    try dsimp only at hSw
    go_simp
    try (with_reducible rfl)
  try simp only [Act.put, List.getElem_toArray, List.getElem_cons_zero, List.getElem_cons_succ, List.setIfInBounds_toArray, List.set_cons_zero, List.set_cons_succ]
  refine wpAnyH_take (i := 3) (oi := _) (v := ?_) rfl (by kernel_rfl) (by kernel_rfl) (by kernel_rfl) (fun _ _ _ h => h) (Or.inl ⟨by kernel_rfl, ?_⟩) (by assumption) ?_
  rotate_left
  · intro w hSw
    try dsimp only at hSw
    go_simp
    try (with_reducible rfl)
  try simp only [Act.put, List.getElem_toArray, List.getElem_cons_zero, List.getElem_cons_succ, List.setIfInBounds_toArray, List.set_cons_zero, List.set_cons_succ]
  refine wpAnyH_take (i := 5) (oi := _) (v := ?_) rfl (by kernel_rfl) (by kernel_rfl) (by kernel_rfl) (fun _ _ _ h => h) (Or.inl ⟨by kernel_rfl, ?_⟩) (by assumption) ?_
  rotate_left
  · intro w hSw
    try dsimp only at hSw
    go_simp
    try (with_reducible rfl)
  try simp only [Act.put, List.getElem_toArray, List.getElem_cons_zero, List.getElem_cons_succ, List.setIfInBounds_toArray, List.set_cons_zero, List.set_cons_succ]
  refine wpAnyH_take (i := 6) (oi := _) (v := ?_) rfl (by kernel_rfl) (by kernel_rfl) (by kernel_rfl) (fun _ _ _ h => h) (Or.inl ⟨by kernel_rfl, ?_⟩) (by assumption) ?_
  rotate_left
  · intro w hSw
    try dsimp only at hSw
    go_simp
    try (with_reducible rfl)
  try simp only [Act.put, List.getElem_toArray, List.getElem_cons_zero, List.getElem_cons_succ, List.setIfInBounds_toArray, List.set_cons_zero, List.set_cons_succ]
  refine wpAnyH_ready (rs := [4]) (by kernel_rfl) (by simp) ?_
  refine AllReadyH.cons (o := _) rfl (fun K hK => ?_) AllReadyH.nil
  go_simp
  go_at_call 62
  refine (HC.out w2.drew (Below.refl _ _).drew).mono ?_
  rintro e w3 ⟨A3, k3, rfl, hA3, hb3', _⟩
  have hb3 : Below w2.heap.size w2 w3 := (Below.refl _ _).drew.trans hb3'
  have hk3 := KeepP.below (KeepP.start (fun b' => b' = w.heap.size ∨ b' = b) w2) hb3' hKl
  refine hK.out _ _ hk3 (fun _ => ?_)
  clear hK K hHeld hb3'
  try simp only [Act.put, List.getElem_toArray, List.getElem_cons_zero, List.getElem_cons_succ, List.setIfInBounds_toArray, List.set_cons_zero, List.set_cons_succ]
  refine wpAnyH_ready (rs := [7]) (by kernel_rfl) (by simp) ?_
  refine AllReadyH.cons (o := _) rfl (fun K hK => ?_) AllReadyH.nil
  go_simp
  go_at_call 108
  have HB3 := Lib.hid (HB.out.trans (hb3.mono HB.out.size))
  by_cases hbs : bs = []
  · subst hbs
    refine (repeat0_go w3 A3 k3 n h0 h1).mono ?_
    rintro e w5 ⟨⟨g5, rfl⟩, hb5⟩
    have hk5 := KeepP.below hk3 hb5 (fun b' h => Nat.lt_of_lt_of_le (hKl b' h) hb3.size)
    refine hK.out _ _ hk5 (fun _ => ?_)
    clear hK K hk3
    try simp only [Act.put, List.getElem_toArray, List.getElem_cons_zero, List.getElem_cons_succ, List.setIfInBounds_toArray, List.set_cons_zero, List.set_cons_succ]
    have HB5 := Lib.hid (HB3.out.trans (hb5.mono HB3.out.size))
    clear hb5 hb3
    refine wpAnyH_take (i := 8) (oi := _) (v := ?_) rfl (by kernel_rfl) (by kernel_rfl) (by kernel_rfl) (fun _ _ _ h => h) (Or.inl ⟨by kernel_rfl, ?_⟩) (by assumption) ?_
    rotate_left
    · intro w hSw
      try dsimp only at hSw
      go_simp
      try (with_reducible rfl)
    try simp only [Act.put, List.getElem_toArray, List.getElem_cons_zero, List.getElem_cons_succ, List.setIfInBounds_toArray, List.set_cons_zero, List.set_cons_succ]
    refine wpAnyH_done (by kernel_rfl) ?_ _
    clear n0 n1 n2 n3 n4 n5 n6 n7 hln
    clear c0 c1 c2 c3 c4 c5 c6 c7 hk5 hKl
    go_wp2
    go_light
    go_ret
    exact ⟨_, _, by rw [repW_nil]; rfl, by rw [repW_nil]; exact ⟨(fun c hc => by cases hc), Nat.zero_le _, (fun h => absurd h (by decide))⟩, HB5.out, by rw [repW_nil]; exact (fun h => absurd h (by decide))⟩
  · have HS3 := Lib.hid HB3.out.size
    refine (repeat_go w3 w3.heap.size A3 k3 bs hA3 n h0 h1 (List.length_pos_iff.2 hbs) HTT.out).mono ?_
    rintro e w5 ⟨rfl, hA5, hb5⟩
    have hk5 := KeepP.below hk3 hb5 (fun b' h => Nat.lt_of_lt_of_le (hKl b' h) hb3.size)
    refine hK.out _ _ hk5 (fun _ => ?_)
    clear hK K hk3
    try simp only [Act.put, List.getElem_toArray, List.getElem_cons_zero, List.getElem_cons_succ, List.setIfInBounds_toArray, List.set_cons_zero, List.set_cons_succ]
    have HB5 := Lib.hid (HB3.out.trans (hb5.mono HB3.out.size))
    have HA5 := Lib.hid hA5
    clear hb5 hb3 hA5
    generalize repW n bs = rw at *
    refine wpAnyH_take (i := 8) (oi := _) (v := ?_) rfl (by kernel_rfl) (by kernel_rfl) (by kernel_rfl) (fun _ _ _ h => h) (Or.inl ⟨by kernel_rfl, ?_⟩) (by assumption) ?_
    rotate_left
    · intro w hSw
      try dsimp only at hSw
      go_simp
      try (with_reducible rfl)
    try simp only [Act.put, List.getElem_toArray, List.getElem_cons_zero, List.getElem_cons_succ, List.setIfInBounds_toArray, List.set_cons_zero, List.set_cons_succ]
    refine wpAnyH_done (by kernel_rfl) ?_ _
    clear n0 n1 n2 n3 n4 n5 n6 n7 hln
    clear c0 c1 c2 c3 c4 c5 c6 c7 hk5 hKl
    go_wp2
    go_light
    go_ret
    exact ⟨_, _, rfl, HA5.out, HB5.out, fun _ a e => by cases e; exact HS3.out⟩
def LstC (n : Nat) : Prop := ∀ (x : Nd) (P : Nat → Prop) (B : Option Addr) (cap : Nat) (w : World), x.size ≤ n → x.size ≤ 2000000 → (∀ y ∈ x.nodes, aloneN y = true) → x.sum.hollow = false → x.sum.short ≤ 2000 → TreesAt w P x.kids B → TabAt 1 Lib.deBruijn64tab w → 1 < w.heap.size →
  Calls Tryz.prog 62 #[ndV x B cap] w (WordOut x.least w)
theorem lst_step {n : Nat} (ih : LstC n) : LstC (n + 1) := by
  intro x P B cap w hsz hlen ho hh h2 ht hT hw0
  have hlk : x.kids.len ≤ 2000000 := by have := Trees.len_size x.kids; unfold Nd.size at hlen; omega
  have hks : x.kids.size + 1 = x.size := by unfold Nd.size; omega
  have hG : KidLe x.kids P w := fun i z C capc W hz h3 h4 hW ht' => by
    have := Trees.size_get x.kids i z hz
    exact ih z _ C capc W (by omega) (by omega) (fun y hy => ho y (kid_nodes hz y hy)) h3 h4 ht' (TabAt.below hW hw0 hT) (Nat.lt_of_lt_of_le hw0 hW.size)
  have hko : ∀ y ∈ x.kids.nodes, aloneN y = true := fun y hy => ho y (by simp [Nd.nodes, hy])
  have hS := ok_sums x.kids hko
  obtain ⟨a1, a9, a0, ak1, ak9⟩ := aloneN_kids (ho x (self_nodes x))
  have hxl := least_len ho hh h2
  by_cases k1 : x.kind = 1
  · rw [sum_none k1] at hh; cases hh
  by_cases k2 : x.kind = 2
  · have : x.least = [] := by unfold Nd.least leastP; simp [k2]
    rw [this]; exact least_nil2 x k2 B cap w
  by_cases k3 : x.kind = 3
  · have hns : isNoSet x.set = false := by
      cases h : isNoSet x.set with
      | false => rfl
      | true => rw [sum_set k3, if_pos h] at hh; cases hh
    obtain ⟨c, l, he, hc⟩ := elems_full hns
    have : x.least = [c] := by unfold Nd.least leastP; rw [if_pos k3, he]; rfl
    rw [this]; exact least_leaf x c l k3 he hc B cap w hT hw0
  by_cases k4 : x.kind = 4
  · have e : x.least = x.kids.leasts.flatten := by unfold Nd.least leastP; rw [if_neg (by omega), if_pos k4]
    rw [sum_cat k4] at hh h2
    obtain ⟨_, _, hp⟩ := cat_mono x.kids.sums fnilF ok_nil hS hh h2
    rw [e] at hxl ⊢
    rw [sum_cat k4] at hxl
    exact least_cat x k4 (by omega) (fun i z hz => hp _ (List.mem_of_getElem? (sums_getW hz))) (by omega) P B cap w ht hG
  by_cases k5 : x.kind = 5
  · have e : x.least = minW (pick (x.kids.sums.foldl eitherF nothingF).short x.kids.sums x.kids.leasts) := by unfold Nd.least leastP; rw [if_neg (by omega), if_neg (by omega), if_pos k5]
    rw [sum_alt k5] at hh h2
    rw [e]
    exact least_alt x _ k5 B cap w fun W hW => leastOf_go x.kids hlk (by omega) hko hh h2 P B cap W (ht.below hW) (hG.later hW)
  obtain ⟨z, hzl, hz⟩ := one_kid (a1 (by omega) (by omega))
  have hk1 := a1 (by omega) (by omega)
  have hzo : ∀ y ∈ z.nodes, aloneN y = true := fun y hy => ho y (kid_nodes hz y hy)
  have hzok := ok_sum hzo
  by_cases k6 : x.kind = 6
  · have : x.least = [] := by unfold Nd.least leastP; simp [k6]
    rw [this]; exact least_nil6 x k6 B cap w
  by_cases k7 : x.kind = 7
  · have e : x.least = z.least := by show leastP x.kind x.set x.lo x.kids.sums x.kids.leasts = z.least; unfold leastP; rw [if_neg (by omega), if_neg (by omega), if_neg (by omega), if_pos k7, Trees.leasts_head hz]
    rw [sum_plus k7 hz] at hh h2
    obtain ⟨h3, h4, h5⟩ := repeated_small hzok (by decide) (by decide) hh h2 (by decide)
    rw [e]
    exact least_plus x z _ k7 hz hk1 P B cap w ht fun W C capc hW ht' => hG 0 z C capc W hz h3 h5 hW ht'
  by_cases k8 : x.kind = 8
  · have : x.least = [] := by unfold Nd.least leastP; simp [k8]
    rw [this]; exact least_nil8 x k8 B cap w
  have k9 : x.kind = 9 := by omega
  have e : x.least = repW x.lo.toNat z.least := by show leastP x.kind x.set x.lo x.kids.sums x.kids.leasts = _; unfold leastP repW; rw [if_neg (by omega), if_neg (by omega), if_neg (by omega), if_neg (by omega), if_pos k9, Trees.leasts_head hz]
  by_cases h : x.lo = 0
  · rw [e, h]; exact least_rep0 x k9 h B cap w
  · obtain ⟨b1, b2, b3, b4⟩ := nine_of (ho x (self_nodes x)) k9
    obtain ⟨f1, f2, f3⟩ := hiF_ok b1 b2 b3 b4
    rw [sum_rep k9 hz] at hh h2
    obtain ⟨h3, h4, h5⟩ := repeated_small hzok (by omega) f1 hh h2 f3
    have hzw := least_len hzo h3 h5
    rw [e]
    refine least_rep x z x.lo.toNat k9 (by omega) (by omega) (by omega) hz hk1 ?_ P B cap w ht fun W C capc hW ht' => hG 0 z C capc W hz h3 h5 hW ht'
    have hxl' : x.least.length = x.lo.toNat * z.least.length := by rw [e, rep_len]
    have h6 : (x.least.length : Int) ≤ 2000 := by rw [hxl, sum_rep k9 hz]; exact h2
    rw [Nat.mul_comm]
    omega
theorem flst_go (x : Nd) (P : Nat → Prop) (B : Option Addr) (cap : Nat) (w : World) (hlen : x.size ≤ 2000000) (ho : ∀ y ∈ x.nodes, aloneN y = true) (hh : x.sum.hollow = false) (h2 : x.sum.short ≤ 2000) (ht : TreesAt w P x.kids B) (hT : TabAt 1 Lib.deBruijn64tab w) (hw0 : 1 < w.heap.size) :
    Calls Tryz.prog 62 #[ndV x B cap] w (WordOut x.least w) := by
  have h : ∀ n, LstC n := by
    intro n
    induction n with
    | zero => exact fun x _ _ _ _ h => by unfold Nd.size at h; omega
    | succ n ih => exact lst_step ih
  exact h x.size x P B cap w (Nat.le_refl _) hlen ho hh h2 ht hT hw0
end Go.Proofs.YtfekpkelmliejaaGreatDoor
