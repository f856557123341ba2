/- Texts of the claim. -/
import Derived.Deep.DeepCutAuto
import Derived.Test.YtofbfafnpdaejaaGreatDoorMMatFp
import Derived.Test.YtofbfafnpdaejaaGreatDoorMMatJo
import Derived.Test.YtofbfafnpdaejaaGreatDoorMMatN
import Derived.Test.YtofbfafnpdaejaaGreatDoorMZ03
namespace Go.Proofs.YtofbfafnpdaejaaGreatDoor
open Go.RowKit
set_option linter.unusedSimpArgs false
set_option linter.unusedVariables false
set_option maxRecDepth 100000
set_option maxHeartbeats 8000000
structure FcI (w U : World) (V : Option Addr) (cv : Nat) (bs : List Nat) (g : Nat) (x : Nd) (B : Option Addr) (cap : Nat) : Prop where
 word : WordIn w U V cv bs
 node : NodeIn U g x B cap
 small : x.size ≤ 2000000
theorem FcI.next {w U U' : World} {V : Option Addr} {cv : Nat} {bs : List Nat} {g : Nat} {x : Nd} {B : Option Addr} {cap : Nat} (h : FcI w U V cv bs g x B cap) (hb : Below U.heap.size U U') : FcI w U' V cv bs g x B cap :=
 ⟨h.word.next hb, h.node.next hb, h.small⟩
theorem FcI.full {w U : World} {V A : Option Addr} {cv k : Nat} {bs u : List Nat} {g : Nat} {x : Nd} {B : Option Addr} {cap : Nat} (h : FcI w U V cv bs g x B cap) (hA : BytesAt U U.heap.size A u) :
  Calls Tryz.prog 12 #[ndV x B cap, .slice A u.length k] U fun e w' => e = .returned (.bool (fullB x u)) ∧ Below U.heap.size U w' :=
 pfull_any x B cap A k u U (by have := h.small; omega) h.node.cap h.node.tree hA h.word.tab h.word.pos
theorem mfacts_wrong (x : Nd) (B : Option Addr) (cap : Nat) (V : Option Addr) (cv : Nat) (bs : List Nat) (w : World) (hsx : x.size ≤ 2000000) (hlx : x.kids.len ≤ cap) (htx : TreesAt w (fun c => c < w.heap.size) x.kids B) (hV : BytesAt w w.heap.size V bs) (hcv : bs.length ≤ cv) (hT : TabAt 0 Lib.deBruijn64tab w) (hw0 : 0 < w.heap.size) (hr : rightT x = false) : Calls Tryz.prog 9 #[ndV x B cap, .slice V bs.length cv] w fun e w' => e = .returned (.bool true) ∧ Below w.heap.size w w' := by
 have hb0 : Below w.heap.size w (w.alloc (.cells (ndA x B cap) 28)) := (Below.refl _ _).alloc (Nat.le_refl _) _
 have hnx : NodeIn (w.alloc (.cells (ndA x B cap) 28)) w.heap.size x B cap := ⟨Blk.new w _ _, (htx.below hb0).weak (fun c h _ => Nat.lt_of_lt_of_le h hb0.size), hlx⟩
 have hw : WordIn w (w.alloc (.cells (ndA x B cap) 28)) V cv bs := ⟨hb0, (hV.below hb0).more hb0.size, hcv, TabAt.below hb0 hw0 hT, Nat.lt_of_lt_of_le hw0 hb0.size⟩
 have H1 := Lib.hid (show FcI w (w.alloc (.cells (ndA x B cap) 28)) V cv bs w.heap.size x B cap from ⟨hw, hnx, hsx⟩)
 clear hnx hw hb0 hsx hlx htx hT hw0
 unfold ndV
 unfold ndA at H1
 go_enter Tryz.func9, Tryz.ntmps9
 go_upto_region 1 with fail
 generalize (w.alloc (.cells #[.int .i64 x.kind, .int .u64 (word x.set.testBit 0), .int .u64 (word x.set.testBit 1), .int .u64 (word x.set.testBit 2), .int .u64 (word x.set.testBit 3), .slice B x.kids.len cap, .int .i64 x.lo, .int .i64 x.hi] 28)) = w1 at *
 generalize hgx : w.heap.size = gx at H1 ⊢
 have hgx := Lib.hid hgx
 have HR := Lib.hid (tright_any x B cap w1 (by have := H1.out.small; omega) H1.out.node.tree)
 unfold ndV at HR
 obtain ⟨p0, p1, p2, p3, p4, p5, p6, p7⟩ : _ ∧ _ ∧ _ ∧ _ ∧ _ ∧ _ ∧ _ ∧ _ := ⟨(H1.out.node.box).cell 0, (H1.out.node.box).cell 1, (H1.out.node.box).cell 2, (H1.out.node.box).cell 3, (H1.out.node.box).cell 4, (H1.out.node.box).cell 5, (H1.out.node.box).cell 6, (H1.out.node.box).cell 7⟩
 simp only [List.getElem?_toArray, List.getElem?_cons_zero, List.getElem?_cons_succ, ndA] at p0 p1 p2 p3 p4 p5 p6 p7
 have pl := (H1.out.node.box).lt
 go_wp2_with fail
 refine HR.out.mono ?_
 rintro e w2 ⟨rfl, hb2⟩
 have H2 := Lib.hid (H1.out.next hb2)
 clear hb2 HR H1
 clear p0 p1 p2 p3 p4 p5 p6 p7 pl
 rw [hr]
 clear hr
 have HK := Lib.hid (knows11_go w2 (H2.out).word.tab (H2.out).word.pos)
 dsimp only
 go_wp2_with fail
 refine HK.out.mono ?_
 rintro e w9 ⟨rfl, hb9⟩
 have HB9 := Lib.hid ((H2.out).word.below.trans (hb9.mono (H2.out).word.below.size))
 clear hb9 HK
 dsimp only
 go_wp2
 go_light
 go_ret
 exact ⟨rfl, HB9.out⟩
theorem mfacts_long (x : Nd) (B : Option Addr) (cap : Nat) (V : Option Addr) (cv : Nat) (bs : List Nat) (w : World) (hsx : x.size ≤ 2000000) (hlx : x.kids.len ≤ cap) (htx : TreesAt w (fun c => c < w.heap.size) x.kids B) (hV : BytesAt w w.heap.size V bs) (hcv : bs.length ≤ cv) (hT : TabAt 0 Lib.deBruijn64tab w) (hw0 : 0 < w.heap.size) (hr : rightT x = true) (hl : 60 < bs.length) : Calls Tryz.prog 9 #[ndV x B cap, .slice V bs.length cv] w fun e w' => e = .returned (.bool true) ∧ Below w.heap.size w w' := by
 have hb0 : Below w.heap.size w (w.alloc (.cells (ndA x B cap) 28)) := (Below.refl _ _).alloc (Nat.le_refl _) _
 have hnx : NodeIn (w.alloc (.cells (ndA x B cap) 28)) w.heap.size x B cap := ⟨Blk.new w _ _, (htx.below hb0).weak (fun c h _ => Nat.lt_of_lt_of_le h hb0.size), hlx⟩
 have hw : WordIn w (w.alloc (.cells (ndA x B cap) 28)) V cv bs := ⟨hb0, (hV.below hb0).more hb0.size, hcv, TabAt.below hb0 hw0 hT, Nat.lt_of_lt_of_le hw0 hb0.size⟩
 have H1 := Lib.hid (show FcI w (w.alloc (.cells (ndA x B cap) 28)) V cv bs w.heap.size x B cap from ⟨hw, hnx, hsx⟩)
 clear hnx hw hb0 hsx hlx htx hT hw0
 unfold ndV
 unfold ndA at H1
 go_enter Tryz.func9, Tryz.ntmps9
 go_upto_region 1 with fail
 generalize (w.alloc (.cells #[.int .i64 x.kind, .int .u64 (word x.set.testBit 0), .int .u64 (word x.set.testBit 1), .int .u64 (word x.set.testBit 2), .int .u64 (word x.set.testBit 3), .slice B x.kids.len cap, .int .i64 x.lo, .int .i64 x.hi] 28)) = w1 at *
 generalize hgx : w.heap.size = gx at H1 ⊢
 have hgx := Lib.hid hgx
 have HR := Lib.hid (tright_any x B cap w1 (by have := H1.out.small; omega) H1.out.node.tree)
 unfold ndV at HR
 obtain ⟨p0, p1, p2, p3, p4, p5, p6, p7⟩ : _ ∧ _ ∧ _ ∧ _ ∧ _ ∧ _ ∧ _ ∧ _ := ⟨(H1.out.node.box).cell 0, (H1.out.node.box).cell 1, (H1.out.node.box).cell 2, (H1.out.node.box).cell 3, (H1.out.node.box).cell 4, (H1.out.node.box).cell 5, (H1.out.node.box).cell 6, (H1.out.node.box).cell 7⟩
 simp only [List.getElem?_toArray, List.getElem?_cons_zero, List.getElem?_cons_succ, ndA] at p0 p1 p2 p3 p4 p5 p6 p7
 have pl := (H1.out.node.box).lt
 go_wp2_with fail
 refine HR.out.mono ?_
 rintro e w2 ⟨rfl, hb2⟩
 have H2 := Lib.hid (H1.out.next hb2)
 clear hb2 HR H1
 clear p0 p1 p2 p3 p4 p5 p6 p7 pl
 rw [hr]
 have hd : (60 : Int) < (bs.length : Int) := by omega
 clear hr
 have HK := Lib.hid (knows11_go w2 (H2.out).word.tab (H2.out).word.pos)
 dsimp only
 go_wp2_with fail
 refine HK.out.mono ?_
 rintro e w9 ⟨rfl, hb9⟩
 have HB9 := Lib.hid ((H2.out).word.below.trans (hb9.mono (H2.out).word.below.size))
 clear hb9 HK
 dsimp only
 go_wp2
 go_light
 go_ret
 exact ⟨rfl, HB9.out⟩
theorem mfacts_near (x : Nd) (B : Option Addr) (cap : Nat) (V : Option Addr) (cv : Nat) (bs : List Nat) (w : World) (hsx : x.size ≤ 2000000) (hlx : x.kids.len ≤ cap) (htx : TreesAt w (fun c => c < w.heap.size) x.kids B) (hV : BytesAt w w.heap.size V bs) (hcv : bs.length ≤ cv) (hT : TabAt 0 Lib.deBruijn64tab w) (hw0 : 0 < w.heap.size) (hr : rightT x = true) (hl : bs.length ≤ 60) : Calls Tryz.prog 9 #[ndV x B cap, .slice V bs.length cv] w fun e w' => e = .returned (.bool true) ∧ Below w.heap.size w w' := by
 have HF := Lib.hid (facts_is hr hV.1 hl)
 have hbb := hV.1
 have hb0 : Below w.heap.size w (w.alloc (.cells (ndA x B cap) 28)) := (Below.refl _ _).alloc (Nat.le_refl _) _
 have hnx : NodeIn (w.alloc (.cells (ndA x B cap) 28)) w.heap.size x B cap := ⟨Blk.new w _ _, (htx.below hb0).weak (fun c h _ => Nat.lt_of_lt_of_le h hb0.size), hlx⟩
 have hw : WordIn w (w.alloc (.cells (ndA x B cap) 28)) V cv bs := ⟨hb0, (hV.below hb0).more hb0.size, hcv, TabAt.below hb0 hw0 hT, Nat.lt_of_lt_of_le hw0 hb0.size⟩
 have H1 := Lib.hid (show FcI w (w.alloc (.cells (ndA x B cap) 28)) V cv bs w.heap.size x B cap from ⟨hw, hnx, hsx⟩)
 clear hnx hw hb0 hsx hlx htx hT hw0
 unfold ndV
 unfold ndA at H1
 go_enter Tryz.func9, Tryz.ntmps9
 go_upto_region 1 with fail
 generalize (w.alloc (.cells #[.int .i64 x.kind, .int .u64 (word x.set.testBit 0), .int .u64 (word x.set.testBit 1), .int .u64 (word x.set.testBit 2), .int .u64 (word x.set.testBit 3), .slice B x.kids.len cap, .int .i64 x.lo, .int .i64 x.hi] 28)) = w1 at *
 generalize hgx : w.heap.size = gx at H1 ⊢
 have hgx := Lib.hid hgx
 have HR := Lib.hid (tright_any x B cap w1 (by have := H1.out.small; omega) H1.out.node.tree)
 unfold ndV at HR
 obtain ⟨p0, p1, p2, p3, p4, p5, p6, p7⟩ : _ ∧ _ ∧ _ ∧ _ ∧ _ ∧ _ ∧ _ ∧ _ := ⟨(H1.out.node.box).cell 0, (H1.out.node.box).cell 1, (H1.out.node.box).cell 2, (H1.out.node.box).cell 3, (H1.out.node.box).cell 4, (H1.out.node.box).cell 5, (H1.out.node.box).cell 6, (H1.out.node.box).cell 7⟩
 simp only [List.getElem?_toArray, List.getElem?_cons_zero, List.getElem?_cons_succ, ndA] at p0 p1 p2 p3 p4 p5 p6 p7
 have pl := (H1.out.node.box).lt
 go_wp2_with fail
 refine HR.out.mono ?_
 rintro e w2 ⟨rfl, hb2⟩
 have H2 := Lib.hid (H1.out.next hb2)
 clear hb2 HR H1
 clear p0 p1 p2 p3 p4 p5 p6 p7 pl
 have hd : decide ((60 : Int) < (bs.length : Int)) = false := by rw [decide_eq_false_iff_not]; omega
 have HHol := Lib.hid (fun (W : World) (h : FcI w W V cv bs gx x B cap) => fhollow_go x B cap W (by have := h.small; omega) h.node.tree)
 have HSho := Lib.hid (fun (W : World) (h : FcI w W V cv bs gx x B cap) => fshortest_go x B cap W (by have := h.small; omega) h.node.tree)
 have HBou := Lib.hid (fun (W : World) (h : FcI w W V cv bs gx x B cap) => fbounded_go x B cap W (by have := h.small; omega) h.node.tree)
 have HLon := Lib.hid (fun (W : World) (h : FcI w W V cv bs gx x B cap) => flongest_go x B cap W (by have := h.small; omega) h.node.tree)
 have HNul := Lib.hid (fun (W : World) (h : FcI w W V cv bs gx x B cap) => fnullable_go x B cap W (by have := h.small; omega) h.node.tree)
 have HFir := Lib.hid (fun (W : World) (h : FcI w W V cv bs gx x B cap) => ffirst_go x B cap W (by have := h.small; omega) h.node.tree)
 have HLas := Lib.hid (fun (W : World) (h : FcI w W V cv bs gx x B cap) => flast_go x B cap W (by have := h.small; omega) h.node.tree)
 have HLea := Lib.hid (fun (W : World) (h : FcI w W V cv bs gx x B cap) => fLeast_go x 200 B cap W h.small (by decide) h.node.tree h.word.tab h.word.pos)
 have HFn := Lib.hid (fun (W : World) (h : FcI w W V cv bs gx x B cap) => h.full (A := none) (k := 0) (u := []) ⟨(fun c hc => by cases hc), Nat.zero_le _, (fun h => absurd h (by decide))⟩)
 have HFw := Lib.hid (fun (W : World) (h : FcI w W V cv bs gx x B cap) => h.full (k := cv) h.word.bytes)
 obtain ⟨f1, f2, f3⟩ := HF.out
 rw [hr] at HHol HBou HNul ⊢
 have HF3 := Lib.hid f3
 have HF1 := Lib.hid f1
 rw [f2] at HFn
 simp only [Bool.true_and] at HHol HBou HNul
 unfold ndV at HHol HSho HBou HLon HNul HFir HLas HFn HFw
 clear hr HF f1 f2 f3 hV
 have HC := Lib.hid (HLea.out w2 H2.out)
 unfold ndV at HC
 obtain ⟨p0, p1, p2, p3, p4, p5, p6, p7⟩ : _ ∧ _ ∧ _ ∧ _ ∧ _ ∧ _ ∧ _ ∧ _ := ⟨((H2.out).node.box).cell 0, ((H2.out).node.box).cell 1, ((H2.out).node.box).cell 2, ((H2.out).node.box).cell 3, ((H2.out).node.box).cell 4, ((H2.out).node.box).cell 5, ((H2.out).node.box).cell 6, ((H2.out).node.box).cell 7⟩
 simp only [List.getElem?_toArray, List.getElem?_cons_zero, List.getElem?_cons_succ, ndA] at p0 p1 p2 p3 p4 p5 p6 p7
 have pl := ((H2.out).node.box).lt
 go_wp2_with fail
 refine HC.out.mono ?_
 rintro e w3 ⟨A5, k5, rfl, hA5, hb3⟩
 generalize wordM x 200 = u at *
 generalize okM x 200 = ok at *
 have H3 := Lib.hid (H2.out.next hb3)
 have HA := Lib.hid hA5
 clear hb3 hA5 HC H2 HLea
 clear p0 p1 p2 p3 p4 p5 p6 p7 pl
 generalize (knownF x).null = nl at *
 have HLen := Lib.hid (HA.out.2.1)
 dsimp only
 have HFu := Lib.hid (fun (W : World) (h : FcI w W V cv bs gx x B cap) (hA : BytesAt W W.heap.size A5 u) => h.full (k := k5) hA)
 unfold ndV at HFu
 obtain ⟨p0, p1, p2, p3, p4, p5, p6, p7⟩ : _ ∧ _ ∧ _ ∧ _ ∧ _ ∧ _ ∧ _ ∧ _ := ⟨(H3.out.node.box).cell 0, (H3.out.node.box).cell 1, (H3.out.node.box).cell 2, (H3.out.node.box).cell 3, (H3.out.node.box).cell 4, (H3.out.node.box).cell 5, (H3.out.node.box).cell 6, (H3.out.node.box).cell 7⟩
 simp only [List.getElem?_toArray, List.getElem?_cons_zero, List.getElem?_cons_succ, ndA] at p0 p1 p2 p3 p4 p5 p6 p7
 have pl := (H3.out.node.box).lt
 cases ok with
 | false =>
  have hno : fullB x bs = false := by
   cases hf : fullB x bs with
   | false => rfl
   | true =>
    have := (HF3.out hf).2.2.2.1
    cases this
  rw [hno] at HFw
  clear HF3 HFu HFir HLas
  go_wp2
  refine wp_region_noPanic ?_
  refine wp_region_held_drew (S := fun w' => (∀ b o, b < w3.heap.size → w'.cell? ⟨b, o, none⟩ = w3.cell? ⟨b, o, none⟩) ∧ Since w3.heap.size w3 w') (by kernel_rfl) (since_start (Nat.le_refl _)) (fun hHeld => ?_)
  have hs := since_start (w0 := w3) (Nat.le_refl w3.heap.size)
  refine wpAnyH_take (i := 0) (oi := _) (v := ?_) rfl (by kernel_rfl) (by kernel_rfl) (by kernel_rfl) (fun _ _ _ h => h) (Or.inl ⟨by kernel_rfl, ?_⟩) (by assumption) ?_
  rotate_left
  ·intro w hSw
   try dsimp only at hSw
   go_simp
   try (with_reducible rfl)
  try simp only [Act.put, List.getElem_toArray, List.getElem_cons_zero, List.getElem_cons_succ, List.setIfInBounds_toArray, List.set_cons_zero, List.set_cons_succ]
  refine wpAnyH_take (i := 1) (oi := _) (v := ?_) rfl (by kernel_rfl) (by kernel_rfl) (by kernel_rfl) (fun _ _ _ h => h) (Or.inl ⟨by kernel_rfl, ?_⟩) (by assumption) ?_
  rotate_left
  ·intro w hSw
   try dsimp only at hSw
   go_simp
   try (with_reducible rfl)
  try simp only [Act.put, List.getElem_toArray, List.getElem_cons_zero, List.getElem_cons_succ, List.setIfInBounds_toArray, List.set_cons_zero, List.set_cons_succ]
  refine wpAnyH_take (i := 2) (oi := _) (v := undef) rfl (by kernel_rfl) (by kernel_rfl) (by kernel_rfl) (fun _ _ _ h => h) (Or.inr ⟨by kernel_rfl, rfl⟩) (by assumption) ?_
  try simp only [Act.put, List.getElem_toArray, List.getElem_cons_zero, List.getElem_cons_succ, List.setIfInBounds_toArray, List.set_cons_zero, List.set_cons_succ]
  refine wpAnyH_take (i := 3) (oi := _) (v := undef) rfl (by kernel_rfl) (by kernel_rfl) (by kernel_rfl) (fun _ _ _ h => h) (Or.inr ⟨by kernel_rfl, rfl⟩) (by assumption) ?_
  try simp only [Act.put, List.getElem_toArray, List.getElem_cons_zero, List.getElem_cons_succ, List.setIfInBounds_toArray, List.set_cons_zero, List.set_cons_succ]
  refine wpAnyH_take (i := 4) (oi := _) (v := undef) rfl (by kernel_rfl) (by kernel_rfl) (by kernel_rfl) (fun _ _ _ h => h) (Or.inr ⟨by kernel_rfl, rfl⟩) (by assumption) ?_
  try simp only [Act.put, List.getElem_toArray, List.getElem_cons_zero, List.getElem_cons_succ, List.setIfInBounds_toArray, List.set_cons_zero, List.set_cons_succ]
  refine wpAnyH_take (i := 5) (oi := _) (v := undef) rfl (by kernel_rfl) (by kernel_rfl) (by kernel_rfl) (fun _ _ _ h => h) (Or.inr ⟨by kernel_rfl, rfl⟩) (by assumption) ?_
  try simp only [Act.put, List.getElem_toArray, List.getElem_cons_zero, List.getElem_cons_succ, List.setIfInBounds_toArray, List.set_cons_zero, List.set_cons_succ]
  refine wpAnyH_take (i := 6) (oi := _) (v := ?_) rfl (by kernel_rfl) (by kernel_rfl) (by kernel_rfl) (fun _ _ _ h => h) (Or.inl ⟨by kernel_rfl, ?_⟩) (by assumption) ?_
  rotate_left
  ·intro w hSw
   try dsimp only at hSw
   go_simp
   try (with_reducible rfl)
  try simp only [Act.put, List.getElem_toArray, List.getElem_cons_zero, List.getElem_cons_succ, List.setIfInBounds_toArray, List.set_cons_zero, List.set_cons_succ]
  refine wpAnyH_take (i := 7) (oi := _) (v := ?_) rfl (by kernel_rfl) (by kernel_rfl) (by kernel_rfl) (fun _ _ _ h => h) (Or.inl ⟨by kernel_rfl, ?_⟩) (by assumption) ?_
  rotate_left
  ·intro w hSw
   try dsimp only at hSw
   go_simp
   try (with_reducible rfl)
  try simp only [Act.put, List.getElem_toArray, List.getElem_cons_zero, List.getElem_cons_succ, List.setIfInBounds_toArray, List.set_cons_zero, List.set_cons_succ]
  refine wpAnyH_take (i := 8) (oi := _) (v := ?_) rfl (by kernel_rfl) (by kernel_rfl) (by kernel_rfl) (fun _ _ _ h => h) (Or.inl ⟨by kernel_rfl, ?_⟩) (by assumption) ?_
  rotate_left
  ·intro w hSw
   try dsimp only at hSw
   go_simp
   try (with_reducible rfl)
  try simp only [Act.put, List.getElem_toArray, List.getElem_cons_zero, List.getElem_cons_succ, List.setIfInBounds_toArray, List.set_cons_zero, List.set_cons_succ]
  refine wpAnyH_take (i := 10) (oi := _) (v := ?_) rfl (by kernel_rfl) (by kernel_rfl) (by kernel_rfl) (fun _ _ _ h => h) (Or.inl ⟨by kernel_rfl, ?_⟩) (by assumption) ?_
  rotate_left
  ·intro w hSw
   try dsimp only at hSw
   go_simp
   try (with_reducible rfl)
  try simp only [Act.put, List.getElem_toArray, List.getElem_cons_zero, List.getElem_cons_succ, List.setIfInBounds_toArray, List.set_cons_zero, List.set_cons_succ]
  refine wpAnyH_ready (rs := [9]) (by kernel_rfl) (by simp) ?_
  refine AllReadyH.cons (o := _) rfl (fun K hK => ?_) AllReadyH.nil
  go_simp
  go_at_call 12
  refine (HFn.out _ (H3.out.next hs.2.1)).mono ?_
  rintro e v1 ⟨rfl, hb'⟩
  have hs := since_step hs hb'
  refine hK.out _ _ hs (fun _ => ?_)
  clear hK K hb'
  try simp only [Act.put, List.getElem_toArray, List.getElem_cons_zero, List.getElem_cons_succ, List.setIfInBounds_toArray, List.set_cons_zero, List.set_cons_succ]
  refine wpAnyH_ready (rs := [11]) (by kernel_rfl) (by simp) ?_
  refine AllReadyH.cons (o := _) rfl (fun K hK => ?_) AllReadyH.nil
  go_simp
  go_at_call 45
  refine (HNul.out _ (H3.out.next hs.2.1)).mono ?_
  rintro e v2 ⟨rfl, hb'⟩
  have hs := since_step hs hb'
  refine hK.out _ _ hs (fun _ => ?_)
  clear hK K hb'
  try simp only [Act.put, List.getElem_toArray, List.getElem_cons_zero, List.getElem_cons_succ, List.setIfInBounds_toArray, List.set_cons_zero, List.set_cons_succ]
  refine wpAnyH_take (i := 12) (oi := _) (v := ?_) rfl (by kernel_rfl) (by kernel_rfl) (by kernel_rfl) (fun _ _ _ h => h) (Or.inl ⟨by kernel_rfl, ?_⟩) (by assumption) ?_
  rotate_left
  ·intro w hSw
   try dsimp only at hSw
   go_simp
   try (with_reducible rfl)
  try simp only [Act.put, List.getElem_toArray, List.getElem_cons_zero, List.getElem_cons_succ, List.setIfInBounds_toArray, List.set_cons_zero, List.set_cons_succ]
  refine wpAnyH_take (i := 13) (oi := _) (v := ?_) rfl (by kernel_rfl) (by kernel_rfl) (by kernel_rfl) (fun _ _ _ h => h) (Or.inl ⟨by kernel_rfl, ?_⟩) (by assumption) ?_
  rotate_left
  ·intro w hSw
   try dsimp only at hSw
   go_simp
   try (with_reducible rfl)
  try simp only [Act.put, List.getElem_toArray, List.getElem_cons_zero, List.getElem_cons_succ, List.setIfInBounds_toArray, List.set_cons_zero, List.set_cons_succ]
  refine wpAnyH_done (by kernel_rfl) ?_ _
  refine NoPanic.normal ?_
  have H4 := Lib.hid (H3.out.next hs.2.1)
  have HA4 := Lib.hid ((HA.out.below hs.2.1).more hs.2.1.size)
  clear hs H3 HA HNul HFn HF1
  clear p0 p1 p2 p3 p4 p5 p6 p7 pl
  have HC := Lib.hid (HFw.out _ H4.out)
  unfold ndV at HC
  obtain ⟨p0, p1, p2, p3, p4, p5, p6, p7⟩ : _ ∧ _ ∧ _ ∧ _ ∧ _ ∧ _ ∧ _ ∧ _ := ⟨((H4.out).node.box).cell 0, ((H4.out).node.box).cell 1, ((H4.out).node.box).cell 2, ((H4.out).node.box).cell 3, ((H4.out).node.box).cell 4, ((H4.out).node.box).cell 5, ((H4.out).node.box).cell 6, ((H4.out).node.box).cell 7⟩
  simp only [List.getElem?_toArray, List.getElem?_cons_zero, List.getElem?_cons_succ, ndA] at p0 p1 p2 p3 p4 p5 p6 p7
  have pl := ((H4.out).node.box).lt
  go_wp2_with fail
  refine HC.out.mono ?_
  rintro e w5 ⟨rfl, hb5⟩
  have H5 := Lib.hid (H4.out.next hb5)
  clear hb5 HC H4 HA4
  clear p0 p1 p2 p3 p4 p5 p6 p7 pl
  have HK := Lib.hid (knows11_go w5 (H5.out).word.tab (H5.out).word.pos)
  dsimp only
  go_wp2_with fail
  refine HK.out.mono ?_
  rintro e w9 ⟨rfl, hb9⟩
  have HB9 := Lib.hid ((H5.out).word.below.trans (hb9.mono (H5.out).word.below.size))
  clear hb9 HK
  dsimp only
  go_wp2
  go_light
  go_ret
  exact ⟨rfl, HB9.out⟩
 | true =>
  rw [HF1.out rfl] at HFu
  go_wp2
  refine wp_region_noPanic ?_
  refine wp_region_held_drew (S := fun w' => (∀ b o, b < w3.heap.size → w'.cell? ⟨b, o, none⟩ = w3.cell? ⟨b, o, none⟩) ∧ Since w3.heap.size w3 w') (by kernel_rfl) (since_start (Nat.le_refl _)) (fun hHeld => ?_)
  have hs := since_start (w0 := w3) (Nat.le_refl w3.heap.size)
  refine wpAnyH_take (i := 0) (oi := _) (v := ?_) rfl (by kernel_rfl) (by kernel_rfl) (by kernel_rfl) (fun _ _ _ h => h) (Or.inl ⟨by kernel_rfl, ?_⟩) (by assumption) ?_
  rotate_left
  ·intro w hSw
   try dsimp only at hSw
   go_simp
   try (with_reducible rfl)
  try simp only [Act.put, List.getElem_toArray, List.getElem_cons_zero, List.getElem_cons_succ, List.setIfInBounds_toArray, List.set_cons_zero, List.set_cons_succ]
  refine wpAnyH_take (i := 1) (oi := _) (v := ?_) rfl (by kernel_rfl) (by kernel_rfl) (by kernel_rfl) (fun _ _ _ h => h) (Or.inl ⟨by kernel_rfl, ?_⟩) (by assumption) ?_
  rotate_left
  ·intro w hSw
   try dsimp only at hSw
   go_simp
   try (with_reducible rfl)
  try simp only [Act.put, List.getElem_toArray, List.getElem_cons_zero, List.getElem_cons_succ, List.setIfInBounds_toArray, List.set_cons_zero, List.set_cons_succ]
  refine wpAnyH_take (i := 2) (oi := _) (v := ?_) rfl (by kernel_rfl) (by kernel_rfl) (by kernel_rfl) (fun _ _ _ h => h) (Or.inl ⟨by kernel_rfl, ?_⟩) (by assumption) ?_
  rotate_left
  ·intro w hSw
   try dsimp only at hSw
   go_simp
   try (with_reducible rfl)
  try simp only [Act.put, List.getElem_toArray, List.getElem_cons_zero, List.getElem_cons_succ, List.setIfInBounds_toArray, List.set_cons_zero, List.set_cons_succ]
  refine wpAnyH_take (i := 3) (oi := _) (v := ?_) rfl (by kernel_rfl) (by kernel_rfl) (by kernel_rfl) (fun _ _ _ h => h) (Or.inl ⟨by kernel_rfl, ?_⟩) (by assumption) ?_
  rotate_left
  ·intro w hSw
   try dsimp only at hSw
   go_simp
   try (with_reducible rfl)
  try simp only [Act.put, List.getElem_toArray, List.getElem_cons_zero, List.getElem_cons_succ, List.setIfInBounds_toArray, List.set_cons_zero, List.set_cons_succ]
  refine wpAnyH_ready (rs := [4]) (by kernel_rfl) (by simp) ?_
  refine AllReadyH.cons (o := _) rfl (fun K hK => ?_) AllReadyH.nil
  go_simp
  go_at_call 12
  refine (HFu.out _ (H3.out.next hs.2.1) ((HA.out.below hs.2.1).more hs.2.1.size)).mono ?_
  rintro e v0 ⟨rfl, hb'⟩
  have hs := since_step hs hb'
  refine hK.out _ _ hs (fun _ => ?_)
  clear hK K hb'
  try simp only [Act.put, List.getElem_toArray, List.getElem_cons_zero, List.getElem_cons_succ, List.setIfInBounds_toArray, List.set_cons_zero, List.set_cons_succ]
  refine wpAnyH_take (i := 5) (oi := _) (v := ?_) rfl (by kernel_rfl) (by kernel_rfl) (by kernel_rfl) (fun _ _ _ h => h) (Or.inl ⟨by kernel_rfl, ?_⟩) (by assumption) ?_
  rotate_left
  ·intro w hSw
   try dsimp only at hSw
   go_simp
   try (with_reducible rfl)
  try simp only [Act.put, List.getElem_toArray, List.getElem_cons_zero, List.getElem_cons_succ, List.setIfInBounds_toArray, List.set_cons_zero, List.set_cons_succ]
  refine wpAnyH_take (i := 6) (oi := _) (v := ?_) rfl (by kernel_rfl) (by kernel_rfl) (by kernel_rfl) (fun _ _ _ h => h) (Or.inl ⟨by kernel_rfl, ?_⟩) (by assumption) ?_
  rotate_left
  ·intro w hSw
   try dsimp only at hSw
   go_simp
   try (with_reducible rfl)
  try simp only [Act.put, List.getElem_toArray, List.getElem_cons_zero, List.getElem_cons_succ, List.setIfInBounds_toArray, List.set_cons_zero, List.set_cons_succ]
  refine wpAnyH_take (i := 7) (oi := _) (v := ?_) rfl (by kernel_rfl) (by kernel_rfl) (by kernel_rfl) (fun _ _ _ h => h) (Or.inl ⟨by kernel_rfl, ?_⟩) (by assumption) ?_
  rotate_left
  ·intro w hSw
   try dsimp only at hSw
   go_simp
   try (with_reducible rfl)
  try simp only [Act.put, List.getElem_toArray, List.getElem_cons_zero, List.getElem_cons_succ, List.setIfInBounds_toArray, List.set_cons_zero, List.set_cons_succ]
  refine wpAnyH_take (i := 8) (oi := _) (v := ?_) rfl (by kernel_rfl) (by kernel_rfl) (by kernel_rfl) (fun _ _ _ h => h) (Or.inl ⟨by kernel_rfl, ?_⟩) (by assumption) ?_
  rotate_left
  ·intro w hSw
   try dsimp only at hSw
   go_simp
   try (with_reducible rfl)
  try simp only [Act.put, List.getElem_toArray, List.getElem_cons_zero, List.getElem_cons_succ, List.setIfInBounds_toArray, List.set_cons_zero, List.set_cons_succ]
  refine wpAnyH_take (i := 10) (oi := _) (v := ?_) rfl (by kernel_rfl) (by kernel_rfl) (by kernel_rfl) (fun _ _ _ h => h) (Or.inl ⟨by kernel_rfl, ?_⟩) (by assumption) ?_
  rotate_left
  ·intro w hSw
   try dsimp only at hSw
   go_simp
   try (with_reducible rfl)
  try simp only [Act.put, List.getElem_toArray, List.getElem_cons_zero, List.getElem_cons_succ, List.setIfInBounds_toArray, List.set_cons_zero, List.set_cons_succ]
  refine wpAnyH_ready (rs := [9]) (by kernel_rfl) (by simp) ?_
  refine AllReadyH.cons (o := _) rfl (fun K hK => ?_) AllReadyH.nil
  go_simp
  go_at_call 12
  refine (HFn.out _ (H3.out.next hs.2.1)).mono ?_
  rintro e v1 ⟨rfl, hb'⟩
  have hs := since_step hs hb'
  refine hK.out _ _ hs (fun _ => ?_)
  clear hK K hb'
  try simp only [Act.put, List.getElem_toArray, List.getElem_cons_zero, List.getElem_cons_succ, List.setIfInBounds_toArray, List.set_cons_zero, List.set_cons_succ]
  refine wpAnyH_ready (rs := [11]) (by kernel_rfl) (by simp) ?_
  refine AllReadyH.cons (o := _) rfl (fun K hK => ?_) AllReadyH.nil
  go_simp
  go_at_call 45
  refine (HNul.out _ (H3.out.next hs.2.1)).mono ?_
  rintro e v2 ⟨rfl, hb'⟩
  have hs := since_step hs hb'
  refine hK.out _ _ hs (fun _ => ?_)
  clear hK K hb'
  try simp only [Act.put, List.getElem_toArray, List.getElem_cons_zero, List.getElem_cons_succ, List.setIfInBounds_toArray, List.set_cons_zero, List.set_cons_succ]
  refine wpAnyH_take (i := 12) (oi := _) (v := ?_) rfl (by kernel_rfl) (by kernel_rfl) (by kernel_rfl) (fun _ _ _ h => h) (Or.inl ⟨by kernel_rfl, ?_⟩) (by assumption) ?_
  rotate_left
  ·intro w hSw
   try dsimp only at hSw
   go_simp
   try (with_reducible rfl)
  try simp only [Act.put, List.getElem_toArray, List.getElem_cons_zero, List.getElem_cons_succ, List.setIfInBounds_toArray, List.set_cons_zero, List.set_cons_succ]
  refine wpAnyH_take (i := 13) (oi := _) (v := ?_) rfl (by kernel_rfl) (by kernel_rfl) (by kernel_rfl) (fun _ _ _ h => h) (Or.inl ⟨by kernel_rfl, ?_⟩) (by assumption) ?_
  rotate_left
  ·intro w hSw
   try dsimp only at hSw
   go_simp
   try (with_reducible rfl)
  try simp only [Act.put, List.getElem_toArray, List.getElem_cons_zero, List.getElem_cons_succ, List.setIfInBounds_toArray, List.set_cons_zero, List.set_cons_succ]
  clear HFu
  refine wpAnyH_done (by kernel_rfl) ?_ _
  refine NoPanic.normal ?_
  have H4 := Lib.hid (H3.out.next hs.2.1)
  have HA4 := Lib.hid ((HA.out.below hs.2.1).more hs.2.1.size)
  clear hs H3 HA HNul HFn HF1
  clear p0 p1 p2 p3 p4 p5 p6 p7 pl
  generalize hf : fullB x bs = f at *
  have HC := Lib.hid (HFw.out _ H4.out)
  unfold ndV at HC
  obtain ⟨p0, p1, p2, p3, p4, p5, p6, p7⟩ : _ ∧ _ ∧ _ ∧ _ ∧ _ ∧ _ ∧ _ ∧ _ := ⟨((H4.out).node.box).cell 0, ((H4.out).node.box).cell 1, ((H4.out).node.box).cell 2, ((H4.out).node.box).cell 3, ((H4.out).node.box).cell 4, ((H4.out).node.box).cell 5, ((H4.out).node.box).cell 6, ((H4.out).node.box).cell 7⟩
  simp only [List.getElem?_toArray, List.getElem?_cons_zero, List.getElem?_cons_succ, ndA] at p0 p1 p2 p3 p4 p5 p6 p7
  have pl := ((H4.out).node.box).lt
  go_wp2_with fail
  refine HC.out.mono ?_
  cases f with
  | false =>
   rintro e w5 ⟨rfl, hb5⟩
   have H5 := Lib.hid (H4.out.next hb5)
   clear hb5 HC H4 HA4
   clear p0 p1 p2 p3 p4 p5 p6 p7 pl
   have HK := Lib.hid (knows11_go w5 (H5.out).word.tab (H5.out).word.pos)
   dsimp only
   go_wp2_with fail
   refine HK.out.mono ?_
   rintro e w9 ⟨rfl, hb9⟩
   have HB9 := Lib.hid ((H5.out).word.below.trans (hb9.mono (H5.out).word.below.size))
   clear hb9 HK
   dsimp only
   go_wp2
   go_light
   go_ret
   exact ⟨rfl, HB9.out⟩
  | true =>
   obtain ⟨g1, g2, g3, _, g5, g6, g7⟩ := HF3.out rfl
   have HG6 := Lib.hid g6
   have HG7 := Lib.hid g7
   have HG5 := Lib.hid g5
   rw [g1] at HHol
   clear HF3 HFw g6 g7 g5 g1 hf
   rintro e w5 ⟨rfl, hb'⟩
   have H5 := Lib.hid (H4.out.next hb')
   have HA5 := Lib.hid ((HA4.out.below hb').more hb'.size)
   clear hb' HC H4 HA4
   clear p0 p1 p2 p3 p4 p5 p6 p7 pl
   dsimp only
   go_upto_region 9 with fail
   go_cut [77] from 43 to 77 (fun c wx => c = .bool false ∧ Hid (FcI w wx V cv bs gx x B cap))
   case first =>
    have HC := Lib.hid (HHol.out _ H5.out)
    unfold ndV at HC
    obtain ⟨p0, p1, p2, p3, p4, p5, p6, p7⟩ : _ ∧ _ ∧ _ ∧ _ ∧ _ ∧ _ ∧ _ ∧ _ := ⟨((H5.out).node.box).cell 0, ((H5.out).node.box).cell 1, ((H5.out).node.box).cell 2, ((H5.out).node.box).cell 3, ((H5.out).node.box).cell 4, ((H5.out).node.box).cell 5, ((H5.out).node.box).cell 6, ((H5.out).node.box).cell 7⟩
    simp only [List.getElem?_toArray, List.getElem?_cons_zero, List.getElem?_cons_succ, ndA] at p0 p1 p2 p3 p4 p5 p6 p7
    have pl := ((H5.out).node.box).lt
    go_wp2_with fail
    refine HC.out.mono ?_
    rintro e w6 ⟨rfl, hb'⟩
    have H6 := Lib.hid (H5.out.next hb')
    have HA6 := Lib.hid ((HA5.out.below hb').more hb'.size)
    clear hb' HC H5 HA5
    clear p0 p1 p2 p3 p4 p5 p6 p7 pl
    dsimp only
    have HC := Lib.hid (HSho.out _ H6.out)
    unfold ndV at HC
    obtain ⟨p0, p1, p2, p3, p4, p5, p6, p7⟩ : _ ∧ _ ∧ _ ∧ _ ∧ _ ∧ _ ∧ _ ∧ _ := ⟨((H6.out).node.box).cell 0, ((H6.out).node.box).cell 1, ((H6.out).node.box).cell 2, ((H6.out).node.box).cell 3, ((H6.out).node.box).cell 4, ((H6.out).node.box).cell 5, ((H6.out).node.box).cell 6, ((H6.out).node.box).cell 7⟩
    simp only [List.getElem?_toArray, List.getElem?_cons_zero, List.getElem?_cons_succ, ndA] at p0 p1 p2 p3 p4 p5 p6 p7
    have pl := ((H6.out).node.box).lt
    go_wp2_with fail
    refine HC.out.mono ?_
    have hds : decide ((bs.length : Int) < (knownF x).short) = false := by rw [decide_eq_false_iff_not]; omega
    generalize (knownF x).short = sh at *
    rintro e w7 ⟨rfl, hb'⟩
    have H7 := Lib.hid (H6.out.next hb')
    have HA7 := Lib.hid ((HA6.out.below hb').more hb'.size)
    clear hb' HC H6 HA6
    clear p0 p1 p2 p3 p4 p5 p6 p7 pl
    dsimp only
    have HC := Lib.hid (HBou.out _ H7.out)
    unfold ndV at HC
    obtain ⟨p0, p1, p2, p3, p4, p5, p6, p7⟩ : _ ∧ _ ∧ _ ∧ _ ∧ _ ∧ _ ∧ _ ∧ _ := ⟨((H7.out).node.box).cell 0, ((H7.out).node.box).cell 1, ((H7.out).node.box).cell 2, ((H7.out).node.box).cell 3, ((H7.out).node.box).cell 4, ((H7.out).node.box).cell 5, ((H7.out).node.box).cell 6, ((H7.out).node.box).cell 7⟩
    simp only [List.getElem?_toArray, List.getElem?_cons_zero, List.getElem?_cons_succ, ndA] at p0 p1 p2 p3 p4 p5 p6 p7
    have pl := ((H7.out).node.box).lt
    go_wp2_with fail
    refine HC.out.mono ?_
    cases hbd : ((knownF x).long != endF) with
    | false =>
     rintro e w8 ⟨rfl, hb'⟩
     have H8 := Lib.hid (H7.out.next hb')
     have HA8 := Lib.hid ((HA7.out.below hb').more hb'.size)
     clear hb' HC H7 HA7
     clear p0 p1 p2 p3 p4 p5 p6 p7 pl
     dsimp only
     clear HLon HBou HHol HSho hbd g3 g2
     obtain ⟨p0, p1, p2, p3, p4, p5, p6, p7⟩ : _ ∧ _ ∧ _ ∧ _ ∧ _ ∧ _ ∧ _ ∧ _ := ⟨(H8.out.node.box).cell 0, (H8.out.node.box).cell 1, (H8.out.node.box).cell 2, (H8.out.node.box).cell 3, (H8.out.node.box).cell 4, (H8.out.node.box).cell 5, (H8.out.node.box).cell 6, (H8.out.node.box).cell 7⟩
     simp only [List.getElem?_toArray, List.getElem?_cons_zero, List.getElem?_cons_succ, ndA] at p0 p1 p2 p3 p4 p5 p6 p7
     have pl := (H8.out.node.box).lt
     have hcs := bytes_strM cv H8.out.word.bytes
     have hcu := bytes_strM k5 HA8.out
     by_cases hlu : (u.length : Int) = (bs.length : Int)
     ·have hle : ((u.length : Int) == (bs.length : Int)) = true := by rw [beq_iff_eq]; exact hlu
      have hlt := HG5.out hlu
      rw [← less_str hbb HA8.out.1] at hlt
      generalize strOf bs = sa at *
      generalize strOf u = sb at *
      clear HG5 HA8
      go_wp2
      go_meet
      exact ⟨rfl, H8⟩
     ·have hle : ((u.length : Int) == (bs.length : Int)) = false := by rw [beq_eq_false_iff_ne]; exact hlu
      clear HG5 HA8 hcs hcu
      go_wp2
      go_meet
      exact ⟨rfl, H8⟩
    | true =>
     have hdl : decide ((longestF x) < (bs.length : Int)) = false := by
      have := g3 (by rw [bne_iff_ne] at hbd; exact hbd)
      rw [decide_eq_false_iff_not]
      omega
     rintro e w8 ⟨rfl, hb'⟩
     have H8 := Lib.hid (H7.out.next hb')
     have HA8 := Lib.hid ((HA7.out.below hb').more hb'.size)
     clear hb' HC H7 HA7
     clear p0 p1 p2 p3 p4 p5 p6 p7 pl
     dsimp only
     have HC := Lib.hid (HLon.out _ H8.out)
     unfold ndV at HC
     obtain ⟨p0, p1, p2, p3, p4, p5, p6, p7⟩ : _ ∧ _ ∧ _ ∧ _ ∧ _ ∧ _ ∧ _ ∧ _ := ⟨((H8.out).node.box).cell 0, ((H8.out).node.box).cell 1, ((H8.out).node.box).cell 2, ((H8.out).node.box).cell 3, ((H8.out).node.box).cell 4, ((H8.out).node.box).cell 5, ((H8.out).node.box).cell 6, ((H8.out).node.box).cell 7⟩
     simp only [List.getElem?_toArray, List.getElem?_cons_zero, List.getElem?_cons_succ, ndA] at p0 p1 p2 p3 p4 p5 p6 p7
     have pl := ((H8.out).node.box).lt
     go_wp2_with fail
     refine HC.out.mono ?_
     generalize longestF x = lo at *
     rintro e w9 ⟨rfl, hb'⟩
     have H9 := Lib.hid (H8.out.next hb')
     have HA9 := Lib.hid ((HA8.out.below hb').more hb'.size)
     clear hb' HC H8 HA8
     clear p0 p1 p2 p3 p4 p5 p6 p7 pl
     dsimp only
     clear HLon HBou HHol HSho hbd g3 g2
     obtain ⟨p0, p1, p2, p3, p4, p5, p6, p7⟩ : _ ∧ _ ∧ _ ∧ _ ∧ _ ∧ _ ∧ _ ∧ _ := ⟨(H9.out.node.box).cell 0, (H9.out.node.box).cell 1, (H9.out.node.box).cell 2, (H9.out.node.box).cell 3, (H9.out.node.box).cell 4, (H9.out.node.box).cell 5, (H9.out.node.box).cell 6, (H9.out.node.box).cell 7⟩
     simp only [List.getElem?_toArray, List.getElem?_cons_zero, List.getElem?_cons_succ, ndA] at p0 p1 p2 p3 p4 p5 p6 p7
     have pl := (H9.out.node.box).lt
     have hcs := bytes_strM cv H9.out.word.bytes
     have hcu := bytes_strM k5 HA9.out
     by_cases hlu : (u.length : Int) = (bs.length : Int)
     ·have hle : ((u.length : Int) == (bs.length : Int)) = true := by rw [beq_iff_eq]; exact hlu
      have hlt := HG5.out hlu
      rw [← less_str hbb HA9.out.1] at hlt
      generalize strOf bs = sa at *
      generalize strOf u = sb at *
      clear HG5 HA9
      go_wp2
      go_meet
      exact ⟨rfl, H9⟩
     ·have hle : ((u.length : Int) == (bs.length : Int)) = false := by rw [beq_eq_false_iff_ne]; exact hlu
      clear HG5 HA9 hcs hcu
      go_wp2
      go_meet
      exact ⟨rfl, H9⟩
   case rest =>
    obtain ⟨rfl, H9⟩ := hcut
    clear HLon HBou HHol HSho g3 g2 HG5 HA5 H5
    generalize hw9 : wc = w9 at *
    clear hw9
    obtain ⟨p0, p1, p2, p3, p4, p5, p6, p7⟩ : _ ∧ _ ∧ _ ∧ _ ∧ _ ∧ _ ∧ _ ∧ _ := ⟨(H9.out.node.box).cell 0, (H9.out.node.box).cell 1, (H9.out.node.box).cell 2, (H9.out.node.box).cell 3, (H9.out.node.box).cell 4, (H9.out.node.box).cell 5, (H9.out.node.box).cell 6, (H9.out.node.box).cell 7⟩
    simp only [List.getElem?_toArray, List.getElem?_cons_zero, List.getElem?_cons_succ, ndA] at p0 p1 p2 p3 p4 p5 p6 p7
    have pl := (H9.out.node.box).lt
    by_cases hn0 : bs.length = 0
    ·have hz : ((bs.length : Int) == 0) = true := by rw [beq_iff_eq]; omega
     clear hn0
     go_wp2
     go_wp2
     refine wp_region_noPanic ?_
     refine wp_region_held_drew (S := fun w' => (∀ b o, b < w9.heap.size → w'.cell? ⟨b, o, none⟩ = w9.cell? ⟨b, o, none⟩) ∧ Since w9.heap.size w9 w') (by kernel_rfl) (since_start (Nat.le_refl _)) (fun hHeld => ?_)
     have hs := since_start (w0 := w9) (Nat.le_refl w9.heap.size)
     refine wpAnyH_take (i := 0) (oi := _) (v := ?_) rfl (by kernel_rfl) (by kernel_rfl) (by kernel_rfl) (fun _ _ _ h => h) (Or.inl ⟨by kernel_rfl, ?_⟩) (by assumption) ?_
     rotate_left
     ·intro w hSw
      try dsimp only at hSw
      go_simp
      try (with_reducible rfl)
     try simp only [Act.put, List.getElem_toArray, List.getElem_cons_zero, List.getElem_cons_succ, List.setIfInBounds_toArray, List.set_cons_zero, List.set_cons_succ]
     refine wpAnyH_take (i := 1) (oi := _) (v := ?_) rfl (by kernel_rfl) (by kernel_rfl) (by kernel_rfl) (fun _ _ _ h => h) (Or.inl ⟨by kernel_rfl, ?_⟩) (by assumption) ?_
     rotate_left
     ·intro w hSw
      try dsimp only at hSw
      go_simp
      try (with_reducible rfl)
     try simp only [Act.put, List.getElem_toArray, List.getElem_cons_zero, List.getElem_cons_succ, List.setIfInBounds_toArray, List.set_cons_zero, List.set_cons_succ]
     refine wpAnyH_take (i := 2) (oi := _) (v := ?_) rfl (by kernel_rfl) (by kernel_rfl) (by kernel_rfl) (fun _ _ _ h => h) (Or.inl ⟨by kernel_rfl, ?_⟩) (by assumption) ?_
     rotate_left
     ·intro w hSw
      try dsimp only at hSw
      go_simp
      try (with_reducible rfl)
     try simp only [Act.put, List.getElem_toArray, List.getElem_cons_zero, List.getElem_cons_succ, List.setIfInBounds_toArray, List.set_cons_zero, List.set_cons_succ]
     refine wpAnyH_take (i := 3) (oi := _) (v := undef) rfl (by kernel_rfl) (by kernel_rfl) (by kernel_rfl) (fun _ _ _ h => h) (Or.inr ⟨by kernel_rfl, rfl⟩) (by assumption) ?_
     try simp only [Act.put, List.getElem_toArray, List.getElem_cons_zero, List.getElem_cons_succ, List.setIfInBounds_toArray, List.set_cons_zero, List.set_cons_succ]
     refine wpAnyH_take (i := 4) (oi := _) (v := undef) rfl (by kernel_rfl) (by kernel_rfl) (by kernel_rfl) (fun _ _ _ h => h) (Or.inr ⟨by kernel_rfl, rfl⟩) (by assumption) ?_
     try simp only [Act.put, List.getElem_toArray, List.getElem_cons_zero, List.getElem_cons_succ, List.setIfInBounds_toArray, List.set_cons_zero, List.set_cons_succ]
     refine wpAnyH_take (i := 5) (oi := _) (v := undef) rfl (by kernel_rfl) (by kernel_rfl) (by kernel_rfl) (fun _ _ _ h => h) (Or.inr ⟨by kernel_rfl, rfl⟩) (by assumption) ?_
     try simp only [Act.put, List.getElem_toArray, List.getElem_cons_zero, List.getElem_cons_succ, List.setIfInBounds_toArray, List.set_cons_zero, List.set_cons_succ]
     refine wpAnyH_take (i := 6) (oi := _) (v := undef) rfl (by kernel_rfl) (by kernel_rfl) (by kernel_rfl) (fun _ _ _ h => h) (Or.inr ⟨by kernel_rfl, rfl⟩) (by assumption) ?_
     try simp only [Act.put, List.getElem_toArray, List.getElem_cons_zero, List.getElem_cons_succ, List.setIfInBounds_toArray, List.set_cons_zero, List.set_cons_succ]
     refine wpAnyH_take (i := 7) (oi := _) (v := undef) rfl (by kernel_rfl) (by kernel_rfl) (by kernel_rfl) (fun _ _ _ h => h) (Or.inr ⟨by kernel_rfl, rfl⟩) (by assumption) ?_
     try simp only [Act.put, List.getElem_toArray, List.getElem_cons_zero, List.getElem_cons_succ, List.setIfInBounds_toArray, List.set_cons_zero, List.set_cons_succ]
     refine wpAnyH_take (i := 8) (oi := _) (v := undef) rfl (by kernel_rfl) (by kernel_rfl) (by kernel_rfl) (fun _ _ _ h => h) (Or.inr ⟨by kernel_rfl, rfl⟩) (by assumption) ?_
     try simp only [Act.put, List.getElem_toArray, List.getElem_cons_zero, List.getElem_cons_succ, List.setIfInBounds_toArray, List.set_cons_zero, List.set_cons_succ]
     refine wpAnyH_take (i := 9) (oi := _) (v := undef) rfl (by kernel_rfl) (by kernel_rfl) (by kernel_rfl) (fun _ _ _ h => h) (Or.inr ⟨by kernel_rfl, rfl⟩) (by assumption) ?_
     try simp only [Act.put, List.getElem_toArray, List.getElem_cons_zero, List.getElem_cons_succ, List.setIfInBounds_toArray, List.set_cons_zero, List.set_cons_succ]
     refine wpAnyH_take (i := 10) (oi := _) (v := undef) rfl (by kernel_rfl) (by kernel_rfl) (by kernel_rfl) (fun _ _ _ h => h) (Or.inr ⟨by kernel_rfl, rfl⟩) (by assumption) ?_
     try simp only [Act.put, List.getElem_toArray, List.getElem_cons_zero, List.getElem_cons_succ, List.setIfInBounds_toArray, List.set_cons_zero, List.set_cons_succ]
     refine wpAnyH_take (i := 11) (oi := _) (v := undef) rfl (by kernel_rfl) (by kernel_rfl) (by kernel_rfl) (fun _ _ _ h => h) (Or.inr ⟨by kernel_rfl, rfl⟩) (by assumption) ?_
     try simp only [Act.put, List.getElem_toArray, List.getElem_cons_zero, List.getElem_cons_succ, List.setIfInBounds_toArray, List.set_cons_zero, List.set_cons_succ]
     refine wpAnyH_take (i := 12) (oi := _) (v := undef) rfl (by kernel_rfl) (by kernel_rfl) (by kernel_rfl) (fun _ _ _ h => h) (Or.inr ⟨by kernel_rfl, rfl⟩) (by assumption) ?_
     try simp only [Act.put, List.getElem_toArray, List.getElem_cons_zero, List.getElem_cons_succ, List.setIfInBounds_toArray, List.set_cons_zero, List.set_cons_succ]
     refine wpAnyH_take (i := 13) (oi := _) (v := undef) rfl (by kernel_rfl) (by kernel_rfl) (by kernel_rfl) (fun _ _ _ h => h) (Or.inr ⟨by kernel_rfl, rfl⟩) (by assumption) ?_
     try simp only [Act.put, List.getElem_toArray, List.getElem_cons_zero, List.getElem_cons_succ, List.setIfInBounds_toArray, List.set_cons_zero, List.set_cons_succ]
     refine wpAnyH_take (i := 14) (oi := _) (v := undef) rfl (by kernel_rfl) (by kernel_rfl) (by kernel_rfl) (fun _ _ _ h => h) (Or.inr ⟨by kernel_rfl, rfl⟩) (by assumption) ?_
     try simp only [Act.put, List.getElem_toArray, List.getElem_cons_zero, List.getElem_cons_succ, List.setIfInBounds_toArray, List.set_cons_zero, List.set_cons_succ]
     refine wpAnyH_take (i := 15) (oi := _) (v := undef) rfl (by kernel_rfl) (by kernel_rfl) (by kernel_rfl) (fun _ _ _ h => h) (Or.inr ⟨by kernel_rfl, rfl⟩) (by assumption) ?_
     try simp only [Act.put, List.getElem_toArray, List.getElem_cons_zero, List.getElem_cons_succ, List.setIfInBounds_toArray, List.set_cons_zero, List.set_cons_succ]
     refine wpAnyH_take (i := 16) (oi := _) (v := undef) rfl (by kernel_rfl) (by kernel_rfl) (by kernel_rfl) (fun _ _ _ h => h) (Or.inr ⟨by kernel_rfl, rfl⟩) (by assumption) ?_
     try simp only [Act.put, List.getElem_toArray, List.getElem_cons_zero, List.getElem_cons_succ, List.setIfInBounds_toArray, List.set_cons_zero, List.set_cons_succ]
     refine wpAnyH_take (i := 17) (oi := _) (v := undef) rfl (by kernel_rfl) (by kernel_rfl) (by kernel_rfl) (fun _ _ _ h => h) (Or.inr ⟨by kernel_rfl, rfl⟩) (by assumption) ?_
     try simp only [Act.put, List.getElem_toArray, List.getElem_cons_zero, List.getElem_cons_succ, List.setIfInBounds_toArray, List.set_cons_zero, List.set_cons_succ]
     refine wpAnyH_take (i := 18) (oi := _) (v := undef) rfl (by kernel_rfl) (by kernel_rfl) (by kernel_rfl) (fun _ _ _ h => h) (Or.inr ⟨by kernel_rfl, rfl⟩) (by assumption) ?_
     try simp only [Act.put, List.getElem_toArray, List.getElem_cons_zero, List.getElem_cons_succ, List.setIfInBounds_toArray, List.set_cons_zero, List.set_cons_succ]
     refine wpAnyH_take (i := 19) (oi := _) (v := undef) rfl (by kernel_rfl) (by kernel_rfl) (by kernel_rfl) (fun _ _ _ h => h) (Or.inr ⟨by kernel_rfl, rfl⟩) (by assumption) ?_
     try simp only [Act.put, List.getElem_toArray, List.getElem_cons_zero, List.getElem_cons_succ, List.setIfInBounds_toArray, List.set_cons_zero, List.set_cons_succ]
     refine wpAnyH_take (i := 20) (oi := _) (v := undef) rfl (by kernel_rfl) (by kernel_rfl) (by kernel_rfl) (fun _ _ _ h => h) (Or.inr ⟨by kernel_rfl, rfl⟩) (by assumption) ?_
     try simp only [Act.put, List.getElem_toArray, List.getElem_cons_zero, List.getElem_cons_succ, List.setIfInBounds_toArray, List.set_cons_zero, List.set_cons_succ]
     refine wpAnyH_take (i := 21) (oi := _) (v := undef) rfl (by kernel_rfl) (by kernel_rfl) (by kernel_rfl) (fun _ _ _ h => h) (Or.inr ⟨by kernel_rfl, rfl⟩) (by assumption) ?_
     try simp only [Act.put, List.getElem_toArray, List.getElem_cons_zero, List.getElem_cons_succ, List.setIfInBounds_toArray, List.set_cons_zero, List.set_cons_succ]
     refine wpAnyH_take (i := 22) (oi := _) (v := ?_) rfl (by kernel_rfl) (by kernel_rfl) (by kernel_rfl) (fun _ _ _ h => h) (Or.inl ⟨by kernel_rfl, ?_⟩) (by assumption) ?_
     rotate_left
     ·intro w hSw
      try dsimp only at hSw
      go_simp
      try (with_reducible rfl)
     try simp only [Act.put, List.getElem_toArray, List.getElem_cons_zero, List.getElem_cons_succ, List.setIfInBounds_toArray, List.set_cons_zero, List.set_cons_succ]
     refine wpAnyH_take (i := 23) (oi := _) (v := ?_) rfl (by kernel_rfl) (by kernel_rfl) (by kernel_rfl) (fun _ _ _ h => h) (Or.inl ⟨by kernel_rfl, ?_⟩) (by assumption) ?_
     rotate_left
     ·intro w hSw
      try dsimp only at hSw
      go_simp
      try (with_reducible rfl)
     try simp only [Act.put, List.getElem_toArray, List.getElem_cons_zero, List.getElem_cons_succ, List.setIfInBounds_toArray, List.set_cons_zero, List.set_cons_succ]
     refine wpAnyH_done (by kernel_rfl) ?_ _
     refine NoPanic.normal ?_
     have HB9 := Lib.hid (H9.out.next hs.2.1).word.below
     clear hs
     go_wp2
     go_light
     go_ret
     exact ⟨rfl, HB9.out⟩
    ·have hz : ((bs.length : Int) == 0) = false := by rw [beq_eq_false_iff_ne]; omega
     obtain ⟨hb256, _, hbw⟩ := H9.out.word.bytes
     obtain ⟨bb, ob, rfl, lb, hbc⟩ := hbw (by omega)
     have hc0 := hbc 0 (by omega)
     have hc1 := hbc (bs.length - 1) (by omega)
     obtain ⟨ca, hca⟩ : ∃ c, bs[0]? = some c := ⟨_, List.getElem?_eq_getElem (by omega)⟩
     obtain ⟨cz, hcz⟩ : ∃ c, bs[bs.length - 1]? = some c := ⟨_, List.getElem?_eq_getElem (by omega)⟩
     rw [show byteAt bs 0 = ca by unfold byteAt; simp [hca], Nat.add_zero] at hc0
     rw [show byteAt bs (bs.length - 1) = cz by unfold byteAt; simp [hcz]] at hc1
     have HFa := Lib.hid (fun (W : World) => shas11_go (knownF x).first ca W (hb256 ca (List.mem_of_getElem? hca)))
     have HLa := Lib.hid (fun (W : World) => shas11_go (knownF x).last cz W (hb256 cz (List.mem_of_getElem? hcz)))
     rw [HG6.out ca hca] at HFa
     rw [HG7.out cz hcz] at HLa
     have hi0 : (0 : Int) < (bs.length : Int) := by omega
     have hi1 : IntKind.i64.wrap ((bs.length : Int) - 1) = (((bs.length - 1 : Nat)) : Int) := by rw [IntKind.wrap_i64]; omega
     have hi2 : ((bs.length - 1 : Nat) : Int) < (bs.length : Int) := by omega
     have hi3 : 0 < bs.length := by omega
     have hi4 : bs.length - 1 < bs.length := by omega
     clear hb256 hbw hbc hca hcz HG6 HG7
     generalize bs.length - 1 = nz at *
     generalize (knownF x).first = ff at *
     generalize (knownF x).last = fl at *
     go_wp2
     go_wp2
     refine wp_region_noPanic ?_
     refine wp_region_held_drew (S := fun w' => (∀ b o, b < w9.heap.size → w'.cell? ⟨b, o, none⟩ = w9.cell? ⟨b, o, none⟩) ∧ Since w9.heap.size w9 w') (by kernel_rfl) (since_start (Nat.le_refl _)) (fun hHeld => ?_)
     have hs := since_start (w0 := w9) (Nat.le_refl w9.heap.size)
     refine wpAnyH_take (i := 0) (oi := _) (v := ?_) rfl (by kernel_rfl) (by kernel_rfl) (by kernel_rfl) (fun _ _ _ h => h) (Or.inl ⟨by kernel_rfl, ?_⟩) (by assumption) ?_
     rotate_left
     ·intro w hSw
      try dsimp only at hSw
      go_simp
      try (with_reducible rfl)
     try simp only [Act.put, List.getElem_toArray, List.getElem_cons_zero, List.getElem_cons_succ, List.setIfInBounds_toArray, List.set_cons_zero, List.set_cons_succ]
     refine wpAnyH_take (i := 1) (oi := _) (v := ?_) rfl (by kernel_rfl) (by kernel_rfl) (by kernel_rfl) (fun _ _ _ h => h) (Or.inl ⟨by kernel_rfl, ?_⟩) (by assumption) ?_
     rotate_left
     ·intro w hSw
      try dsimp only at hSw
      go_simp
      try (with_reducible rfl)
     try simp only [Act.put, List.getElem_toArray, List.getElem_cons_zero, List.getElem_cons_succ, List.setIfInBounds_toArray, List.set_cons_zero, List.set_cons_succ]
     refine wpAnyH_take (i := 2) (oi := _) (v := ?_) rfl (by kernel_rfl) (by kernel_rfl) (by kernel_rfl) (fun _ _ _ h => h) (Or.inl ⟨by kernel_rfl, ?_⟩) (by assumption) ?_
     rotate_left
     ·intro w hSw
      try dsimp only at hSw
      go_simp
      try (with_reducible rfl)
     try simp only [Act.put, List.getElem_toArray, List.getElem_cons_zero, List.getElem_cons_succ, List.setIfInBounds_toArray, List.set_cons_zero, List.set_cons_succ]
     refine wpAnyH_take (i := 3) (oi := _) (v := ?_) rfl (by kernel_rfl) (by kernel_rfl) (by kernel_rfl) (fun _ _ _ h => h) (Or.inl ⟨by kernel_rfl, ?_⟩) (by assumption) ?_
     rotate_left
     ·intro w hSw
      try dsimp only at hSw
      go_simp
      try (with_reducible rfl)
     try simp only [Act.put, List.getElem_toArray, List.getElem_cons_zero, List.getElem_cons_succ, List.setIfInBounds_toArray, List.set_cons_zero, List.set_cons_succ]
     refine wpAnyH_take (i := 5) (oi := _) (v := ?_) rfl (by kernel_rfl) (by kernel_rfl) (by kernel_rfl) (fun _ _ _ h => h) (Or.inl ⟨by kernel_rfl, ?_⟩) (by assumption) ?_
     rotate_left
     ·intro w hSw
      try dsimp only at hSw
      go_simp
      try (with_reducible rfl)
     try simp only [Act.put, List.getElem_toArray, List.getElem_cons_zero, List.getElem_cons_succ, List.setIfInBounds_toArray, List.set_cons_zero, List.set_cons_succ]
     refine wpAnyH_take (i := 6) (oi := _) (v := ?_) rfl (by kernel_rfl) (by kernel_rfl) (by kernel_rfl) (fun _ _ _ h => h) (Or.inl ⟨by kernel_rfl, ?_⟩) (by assumption) ?_
     rotate_left
     ·intro w hSw
      try dsimp only at hSw
      go_simp
      try (with_reducible rfl)
     try simp only [Act.put, List.getElem_toArray, List.getElem_cons_zero, List.getElem_cons_succ, List.setIfInBounds_toArray, List.set_cons_zero, List.set_cons_succ]
     refine wpAnyH_take (i := 7) (oi := _) (v := ?_) rfl (by kernel_rfl) (by kernel_rfl) (by kernel_rfl) (fun _ _ _ h => h) (Or.inl ⟨by kernel_rfl, ?_⟩) (by assumption) ?_
     rotate_left
     ·intro w hSw
      try dsimp only at hSw
      go_simp
      try (with_reducible rfl)
     try simp only [Act.put, List.getElem_toArray, List.getElem_cons_zero, List.getElem_cons_succ, List.setIfInBounds_toArray, List.set_cons_zero, List.set_cons_succ]
     refine wpAnyH_ready (rs := [4]) (by kernel_rfl) (by simp) ?_
     refine AllReadyH.cons (o := _) rfl (fun K hK => ?_) AllReadyH.nil
     go_simp
     go_at_call 51
     refine (HFir.out _ (H9.out.next hs.2.1)).mono ?_
     rintro e v4 ⟨rfl, hb'⟩
     have hs := since_step hs hb'
     refine hK.out _ _ hs (fun _ => ?_)
     clear hK K hb'
     try simp only [Act.put, List.getElem_toArray, List.getElem_cons_zero, List.getElem_cons_succ, List.setIfInBounds_toArray, List.set_cons_zero, List.set_cons_succ]
     refine wpAnyH_ready (rs := [8]) (by kernel_rfl) (by simp) ?_
     refine AllReadyH.cons (o := _) rfl (fun K hK => ?_) AllReadyH.nil
     go_simp
     go_at_call 50
     refine (HFa.out _).mono ?_
     rintro e v5 ⟨rfl, hb'⟩
     have hs := since_step hs hb'
     refine hK.out _ _ hs (fun _ => ?_)
     clear hK K hb'
     try simp only [Act.put, List.getElem_toArray, List.getElem_cons_zero, List.getElem_cons_succ, List.setIfInBounds_toArray, List.set_cons_zero, List.set_cons_succ]
     refine wpAnyH_take (i := 9) (oi := _) (v := ?_) rfl (by kernel_rfl) (by kernel_rfl) (by kernel_rfl) (fun _ _ _ h => h) (Or.inl ⟨by kernel_rfl, ?_⟩) (by assumption) ?_
     rotate_left
     ·intro w hSw
      try dsimp only at hSw
      go_simp
      try (with_reducible rfl)
     try simp only [Act.put, List.getElem_toArray, List.getElem_cons_zero, List.getElem_cons_succ, List.setIfInBounds_toArray, List.set_cons_zero, List.set_cons_succ]
     refine wpAnyH_take (i := 10) (oi := _) (v := ?_) rfl (by kernel_rfl) (by kernel_rfl) (by kernel_rfl) (fun _ _ _ h => h) (Or.inl ⟨by kernel_rfl, ?_⟩) (by assumption) ?_
     rotate_left
     ·intro w hSw
      try dsimp only at hSw
      go_simp
      try (with_reducible rfl)
     try simp only [Act.put, List.getElem_toArray, List.getElem_cons_zero, List.getElem_cons_succ, List.setIfInBounds_toArray, List.set_cons_zero, List.set_cons_succ]
     refine wpAnyH_take (i := 12) (oi := _) (v := ?_) rfl (by kernel_rfl) (by kernel_rfl) (by kernel_rfl) (fun _ _ _ h => h) (Or.inl ⟨by kernel_rfl, ?_⟩) (by assumption) ?_
     rotate_left
     ·intro w hSw
      try dsimp only at hSw
      go_simp
      try (with_reducible rfl)
     try simp only [Act.put, List.getElem_toArray, List.getElem_cons_zero, List.getElem_cons_succ, List.setIfInBounds_toArray, List.set_cons_zero, List.set_cons_succ]
     refine wpAnyH_take (i := 13) (oi := _) (v := ?_) rfl (by kernel_rfl) (by kernel_rfl) (by kernel_rfl) (fun _ _ _ h => h) (Or.inl ⟨by kernel_rfl, ?_⟩) (by assumption) ?_
     rotate_left
     ·intro w hSw
      try dsimp only at hSw
      go_simp
      try (with_reducible rfl)
     try simp only [Act.put, List.getElem_toArray, List.getElem_cons_zero, List.getElem_cons_succ, List.setIfInBounds_toArray, List.set_cons_zero, List.set_cons_succ]
     refine wpAnyH_take (i := 14) (oi := _) (v := ?_) rfl (by kernel_rfl) (by kernel_rfl) (by kernel_rfl) (fun _ _ _ h => h) (Or.inl ⟨by kernel_rfl, ?_⟩) (by assumption) ?_
     rotate_left
     ·intro w hSw
      try dsimp only at hSw
      go_simp
      try (with_reducible rfl)
     try simp only [Act.put, List.getElem_toArray, List.getElem_cons_zero, List.getElem_cons_succ, List.setIfInBounds_toArray, List.set_cons_zero, List.set_cons_succ]
     refine wpAnyH_take (i := 15) (oi := _) (v := ?_) rfl (by kernel_rfl) (by kernel_rfl) (by kernel_rfl) (fun _ _ _ h => h) (Or.inl ⟨by kernel_rfl, ?_⟩) (by assumption) ?_
     rotate_left
     ·intro w hSw
      try dsimp only at hSw
      go_simp
      try (with_reducible rfl)
     try simp only [Act.put, List.getElem_toArray, List.getElem_cons_zero, List.getElem_cons_succ, List.setIfInBounds_toArray, List.set_cons_zero, List.set_cons_succ]
     refine wpAnyH_take (i := 16) (oi := _) (v := ?_) rfl (by kernel_rfl) (by kernel_rfl) (by kernel_rfl) (fun _ _ _ h => h) (Or.inl ⟨by kernel_rfl, ?_⟩) (by assumption) ?_
     rotate_left
     ·intro w hSw
      try dsimp only at hSw
      go_simp
      try (with_reducible rfl)
     try simp only [Act.put, List.getElem_toArray, List.getElem_cons_zero, List.getElem_cons_succ, List.setIfInBounds_toArray, List.set_cons_zero, List.set_cons_succ]
     refine wpAnyH_ready (rs := [11]) (by kernel_rfl) (by simp) ?_
     refine AllReadyH.cons (o := _) rfl (fun K hK => ?_) AllReadyH.nil
     go_simp
     go_at_call 52
     refine (HLas.out _ (H9.out.next hs.2.1)).mono ?_
     rintro e v6 ⟨rfl, hb'⟩
     have hs := since_step hs hb'
     refine hK.out _ _ hs (fun _ => ?_)
     clear hK K hb'
     try simp only [Act.put, List.getElem_toArray, List.getElem_cons_zero, List.getElem_cons_succ, List.setIfInBounds_toArray, List.set_cons_zero, List.set_cons_succ]
     refine wpAnyH_ready (rs := [17]) (by kernel_rfl) (by simp) ?_
     refine AllReadyH.cons (o := _) rfl (fun K hK => ?_) AllReadyH.nil
     go_simp
     go_at_call 50
     refine (HLa.out _).mono ?_
     rintro e v7 ⟨rfl, hb'⟩
     have hs := since_step hs hb'
     refine hK.out _ _ hs (fun _ => ?_)
     clear hK K hb'
     try simp only [Act.put, List.getElem_toArray, List.getElem_cons_zero, List.getElem_cons_succ, List.setIfInBounds_toArray, List.set_cons_zero, List.set_cons_succ]
     refine wpAnyH_take (i := 18) (oi := _) (v := ?_) rfl (by kernel_rfl) (by kernel_rfl) (by kernel_rfl) (fun _ _ _ h => h) (Or.inl ⟨by kernel_rfl, ?_⟩) (by assumption) ?_
     rotate_left
     ·intro w hSw
      try dsimp only at hSw
      go_simp
      try (with_reducible rfl)
     try simp only [Act.put, List.getElem_toArray, List.getElem_cons_zero, List.getElem_cons_succ, List.setIfInBounds_toArray, List.set_cons_zero, List.set_cons_succ]
     refine wpAnyH_take (i := 19) (oi := _) (v := ?_) rfl (by kernel_rfl) (by kernel_rfl) (by kernel_rfl) (fun _ _ _ h => h) (Or.inl ⟨by kernel_rfl, ?_⟩) (by assumption) ?_
     rotate_left
     ·intro w hSw
      try dsimp only at hSw
      go_simp
      try (with_reducible rfl)
     try simp only [Act.put, List.getElem_toArray, List.getElem_cons_zero, List.getElem_cons_succ, List.setIfInBounds_toArray, List.set_cons_zero, List.set_cons_succ]
     refine wpAnyH_ready (rs := [20]) (by kernel_rfl) (by simp) ?_
     refine AllReadyH.cons (o := _) rfl (fun K hK => ?_) AllReadyH.nil
     go_simp
     go_at_call 43
     refine (knows11_go _ (H9.out.next hs.2.1).word.tab (H9.out.next hs.2.1).word.pos).mono ?_
     rintro e v8 ⟨rfl, hb'⟩
     have hs := since_step hs hb'
     refine hK.out _ _ hs (fun _ => ?_)
     clear hK K hb'
     try simp only [Act.put, List.getElem_toArray, List.getElem_cons_zero, List.getElem_cons_succ, List.setIfInBounds_toArray, List.set_cons_zero, List.set_cons_succ]
     refine wpAnyH_take (i := 21) (oi := _) (v := ?_) rfl (by kernel_rfl) (by kernel_rfl) (by kernel_rfl) (fun _ _ _ h => h) (Or.inl ⟨by kernel_rfl, ?_⟩) (by assumption) ?_
     rotate_left
     ·intro w hSw
      try dsimp only at hSw
      go_simp
      try (with_reducible rfl)
     try simp only [Act.put, List.getElem_toArray, List.getElem_cons_zero, List.getElem_cons_succ, List.setIfInBounds_toArray, List.set_cons_zero, List.set_cons_succ]
     refine wpAnyH_take (i := 22) (oi := _) (v := ?_) rfl (by kernel_rfl) (by kernel_rfl) (by kernel_rfl) (fun _ _ _ h => h) (Or.inl ⟨by kernel_rfl, ?_⟩) (by assumption) ?_
     rotate_left
     ·intro w hSw
      try dsimp only at hSw
      go_simp
      try (with_reducible rfl)
     try simp only [Act.put, List.getElem_toArray, List.getElem_cons_zero, List.getElem_cons_succ, List.setIfInBounds_toArray, List.set_cons_zero, List.set_cons_succ]
     refine wpAnyH_take (i := 23) (oi := _) (v := ?_) rfl (by kernel_rfl) (by kernel_rfl) (by kernel_rfl) (fun _ _ _ h => h) (Or.inl ⟨by kernel_rfl, ?_⟩) (by assumption) ?_
     rotate_left
     ·intro w hSw
      try dsimp only at hSw
      go_simp
      try (with_reducible rfl)
     try simp only [Act.put, List.getElem_toArray, List.getElem_cons_zero, List.getElem_cons_succ, List.setIfInBounds_toArray, List.set_cons_zero, List.set_cons_succ]
     refine wpAnyH_done (by kernel_rfl) ?_ _
     refine NoPanic.normal ?_
     have HB9 := Lib.hid (H9.out.next hs.2.1).word.below
     clear hs
     go_wp2
     go_light
     go_ret
     exact ⟨rfl, HB9.out⟩
theorem mfacts_law (x : Nd) (B : Option Addr) (cap : Nat) (V : Option Addr) (cv : Nat) (bs : List Nat) (w : World) (hsx : x.size ≤ 2000000) (hlx : x.kids.len ≤ cap) (htx : TreesAt w (fun c => c < w.heap.size) x.kids B) (hV : BytesAt w w.heap.size V bs) (hcv : bs.length ≤ cv) (hT : TabAt 0 Lib.deBruijn64tab w) (hw0 : 0 < w.heap.size) : Calls Tryz.prog 9 #[ndV x B cap, .slice V bs.length cv] w fun e w' => e = .returned (.bool true) ∧ Below w.heap.size w w' := by
 cases hr : rightT x with
 | false => exact mfacts_wrong x B cap V cv bs w hsx hlx htx hV hcv hT hw0 hr
 | true =>
  rcases Nat.lt_or_ge 60 bs.length with h | h
  ·exact mfacts_long x B cap V cv bs w hsx hlx htx hV hcv hT hw0 hr h
  ·exact mfacts_near x B cap V cv bs w hsx hlx htx hV hcv hT hw0 hr h
end Go.Proofs.YtofbfafnpdaejaaGreatDoor
