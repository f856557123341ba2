/- Texts of the claim. -/
import Derived.Test.YtfcblmbieiibmaaDoorJMatKn
import Derived.Test.YtfcblmbieiibmaaDoorJMatSl
import Derived.Test.YtfcblmbieiibmaaDoorJTCat
namespace Go.Proofs.YtfcblmbieiibmaaDoor
open Go.RowKit
set_option linter.unusedSimpArgs false
set_option linter.unusedVariables false
set_option maxRecDepth 100000
set_option maxHeartbeats 8000000
theorem right_cat {a b : Nd} (h : rightT (catM a b) = true) : rightT a = true ∧ rightT b = true ∧ rightT (altM a b) = true := by
 have hn : (catM a b).nodes = catM a b :: (a.nodes ++ b.nodes) := by
  show catM a b :: (Trees.of [a, b]).nodes = _
  simp [Trees.of, Trees.nodes, Nd.nodes]
 have hn2 : (altM a b).nodes = altM a b :: (a.nodes ++ b.nodes) := by
  show altM a b :: (Trees.of [a, b]).nodes = _
  simp [Trees.of, Trees.nodes, Nd.nodes]
 unfold rightT at h ⊢
 rw [Bool.and_eq_true, decide_eq_true_eq, hn, List.length_cons, List.length_append, List.all_cons, List.all_append, Bool.and_eq_true, Bool.and_eq_true] at h
 obtain ⟨h1, h2, h3, h4⟩ := h
 have ha : aloneN (altM a b) = true := by
  unfold aloneN
  show aloneV 5 (word (Nat.testBit 0) 0 : Nat) (word (Nat.testBit 0) 1 : Nat) (word (Nat.testBit 0) 2 : Nat) (word (Nat.testBit 0) 3 : Nat) 2 0 0 = true
  decide +kernel
 refine ⟨?_, ?_, ?_⟩
 ·rw [Bool.and_eq_true, decide_eq_true_eq]
  exact ⟨by omega, h3⟩
 ·rw [Bool.and_eq_true, decide_eq_true_eq]
  exact ⟨by omega, h4⟩
 ·rw [Bool.and_eq_true, decide_eq_true_eq, hn2, List.length_cons, List.length_append, List.all_cons, List.all_append, Bool.and_eq_true, Bool.and_eq_true]
  exact ⟨h1, ha, h3, h4⟩
structure NodeIn (U : World) (g : Nat) (x : Nd) (B : Option Addr) (cap : Nat) : Prop where
 box : Blk U g 28 (ndA x B cap)
 tree : TreesAt U (fun b => b < U.heap.size) x.kids B
 cap : x.kids.len ≤ cap
theorem NodeIn.next {U U' : World} {g : Nat} {x : Nd} {B : Option Addr} {cap : Nat} (h : NodeIn U g x B cap) (hb : Below U.heap.size U U') : NodeIn U' g x B cap :=
 ⟨h.box.below hb h.box.lt, (h.tree.below hb).weak (fun b h1 _ => Nat.lt_of_lt_of_le h1 hb.size), h.cap⟩
structure WordIn (w U : World) (V : Option Addr) (cv : Nat) (bs : List Nat) : Prop where
 below : Below w.heap.size w U
 bytes : BytesAt U U.heap.size V bs
 cap : bs.length ≤ cv
 tab : TabAt 0 Lib.deBruijn64tab U
 pos : 0 < U.heap.size
theorem WordIn.next {w U U' : World} {V : Option Addr} {cv : Nat} {bs : List Nat} (h : WordIn w U V cv bs) (hb : Below U.heap.size U U') : WordIn w U' V cv bs :=
 ⟨h.below.trans (hb.mono h.below.size), (h.bytes.below hb).more hb.size, h.cap, TabAt.below hb h.pos h.tab, Nat.lt_of_lt_of_le h.pos hb.size⟩
theorem full_in {w U : World} {V : Option Addr} {cv : Nat} {bs : List Nat} {g : Nat} {x : Nd} {B : Option Addr} {cap : Nat} (hN : NodeIn U g x B cap) (hW : WordIn w U V cv bs) (hs : x.size ≤ 4611686018427387903) :
  Calls Tryd.prog 12 #[ndV x B cap, .slice V bs.length cv] U fun e w' => e = .returned (.bool (fullB x bs)) ∧ Below U.heap.size U w' :=
 pfull_go x B cap V cv bs U hs hN.cap hN.tree hW.bytes hW.cap hW.tab hW.pos
theorem drew_belowM (U : World) : Below U.heap.size U U.drew := (Below.refl _ _).drew
theorem row_two {U : World} {g : Nat} {a b : Nd} {Ba Bb : Option Addr} {ca cb : Nat} (hB : Blk U g 28 (ndCell a Ba ca ++ ndCell b Bb cb).toArray) (ha : a.kids.len ≤ ca) (hb : b.kids.len ≤ cb) (hta : TreesAt U (fun b => b < U.heap.size) a.kids Ba) (htb : TreesAt U (fun b => b < U.heap.size) b.kids Bb) :
  TreesAt U (fun b => b < U.heap.size) (Trees.of [a, b]) (some ⟨g, 0, none⟩) :=
 ⟨g, 0, Ba, ca, rfl, hB.lt, ha, ⟨hB.cell 0, hB.cell 1, hB.cell 2, hB.cell 3, hB.cell 4, hB.cell 5, hB.cell 6, hB.cell 7⟩, hta,
  g, 8, Bb, cb, rfl, hB.lt, hb, ⟨hB.cell 8, hB.cell 9, hB.cell 10, hB.cell 11, hB.cell 12, hB.cell 13, hB.cell 14, hB.cell 15⟩, htb, trivial⟩
theorem size_two (a b : Nd) : (Trees.of [a, b]).size = a.size + b.size := by
 simp [Trees.of, Trees.size, Nd.size]
theorem cat_in {U : World} {a b x : Nd} (hx : catM a b = x) {ga gb : Nat} {Ba Bb : Option Addr} {ca cb : Nat} (hA : NodeIn U ga a Ba ca) (hB : NodeIn U gb b Bb cb) (hs : a.size + b.size ≤ 90000000) :
  Calls Tryd.prog 21 #[.slice (some ⟨U.heap.size, 0, none⟩) 2 2] (U.alloc (.cells (ndCell a Ba ca ++ ndCell b Bb cb).toArray 28)) fun e w' => ∃ B' cap', e = .returned (ndV x B' cap') ∧ Below U.heap.size U w' ∧ x.kids.len ≤ cap' ∧ TreesAt w' (fun b => b < w'.heap.size) x.kids B' := by
 have hb : Below U.heap.size U (U.alloc (.cells (ndCell a Ba ca ++ ndCell b Bb cb).toArray 28)) := (Below.refl _ _).alloc (Nat.le_refl _) _
 refine (tcat_go (Trees.of [a, b]) _ (some ⟨U.heap.size, 0, none⟩) 2 _ rfl (by rw [size_two]; omega) (row_two (Blk.new U _ _) hA.cap hB.cap (hA.next hb).tree (hB.next hb).tree)).mono fun e w' ⟨B', cap', he, hb', hc, ht⟩ => ?_
 subst hx
 exact ⟨B', cap', he, hb.trans (hb'.mono hb.size), hc, ht.weak (fun b _ h => h)⟩
theorem alt_in {U : World} {a b x : Nd} (hx : altM a b = x) {ga gb : Nat} {Ba Bb : Option Addr} {ca cb : Nat} (hA : NodeIn U ga a Ba ca) (hB : NodeIn U gb b Bb cb) (hs : a.size + b.size ≤ 90000000) :
  Calls Tryd.prog 22 #[.slice (some ⟨U.heap.size, 0, none⟩) 2 2] (U.alloc (.cells (ndCell a Ba ca ++ ndCell b Bb cb).toArray 28)) fun e w' => ∃ B' cap', e = .returned (ndV x B' cap') ∧ Below U.heap.size U w' ∧ x.kids.len ≤ cap' ∧ TreesAt w' (fun b => b < w'.heap.size) x.kids B' := by
 have hb : Below U.heap.size U (U.alloc (.cells (ndCell a Ba ca ++ ndCell b Bb cb).toArray 28)) := (Below.refl _ _).alloc (Nat.le_refl _) _
 refine (talt_go (Trees.of [a, b]) _ (some ⟨U.heap.size, 0, none⟩) 2 _ rfl (by rw [size_two]; omega) (row_two (Blk.new U _ _) hA.cap hB.cap (hA.next hb).tree (hB.next hb).tree)).mono fun e w' ⟨B', cap', he, hb', hc, ht⟩ => ?_
 subst hx
 exact ⟨B', cap', he, hb.trans (hb'.mono hb.size), hc, ht.weak (fun b _ h => h)⟩
end Go.Proofs.YtfcblmbieiibmaaDoor
