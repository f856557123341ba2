/- Texts of the claim. -/
import Derived.Test.YtfekpkelmliejaaGreatDoorJNfaO
namespace Go.Proofs.YtfekpkelmliejaaGreatDoor
open Go.RowKit
set_option linter.unusedSimpArgs false
set_option linter.unusedVariables false
set_option maxRecDepth 100000
set_option maxHeartbeats 8000000
theorem ret_nfa {fn : Func} {t2 t3 : Tmp} (h : fn.results = #[.cell t2 43, .tmp t3]) {tmps : Array Value} {w : World} {g : Nat} {a0 a1 a2 a3 a4 c : Value}
  (hp : tmps.getD t2 undef = .pointer (some ⟨g, 0, none⟩)) (hc : tmps.getD t3 undef = c) (hb : Blk w g 43 #[a0, a1, a2, a3, a4]) :
  (results fn tmps).run Tryz.prog w = .ok (.tuple #[.agg #[a0, a1, a2, a3, a4], c]) w := by
 have h1 := run_loadVar_row (P := Tryz.prog) w g 43 43 #[a0, a1, a2, a3, a4] (0, 0) _ hb Tryz.underlying43 rfl (by kernel_rfl)
 simp only [results, h]
 simp only [Array.getD_eq_getD_getElem?] at hp hc
 simp [Sem.run_bind, hp, hc, asAddr, h1, Result.andThen]
def NfaOut (r : Except Int MachS) (w : World) (e : Ending) (w' : World) : Prop :=
 Below w.heap.size w w' ∧ match r with
 | .error k => e = .returned (.tuple #[.agg #[.int .i64 0, .int .i64 0, .slice none 0 0, .slice none 0 0, .slice none 0 0], .int .i64 k])
 | .ok m => ∃ L E A, e = .returned (.tuple #[.agg #[.int .i64 (m.states : Int), .int .i64 0, L, E, A], .int .i64 0]) ∧ RowsM w' w.heap.size m L E A
theorem nof_many (F : Trees) (B : Option Addr) (cap : Nat) (w : World) (hl : F.len ≤ 140737488355328) (h64 : 64 < F.len) :
  Calls Tryz.prog 74 #[.slice B F.len cap] w (NfaOut (ofS F.list) w) := by
 have HV := Lib.hid (show ofS F.list = .error 18 by unfold ofS; rw [if_pos (by rw [Trees.len_list]; exact h64)])
 have hd : (64 : Int) < (F.len : Int) := by omega
 go_enter Tryz.func74, Tryz.ntmps74
 go_wp2
 go_light
 refine bodyPost_ret (ret_nfa Tryz.results74 rfl rfl (Blk.new w 43 _)) rfl ?_
 rw [HV.out]
 exact ⟨(Below.refl _ _).alloc (Nat.le_refl _) _, rfl⟩
theorem nof_kind (F : Trees) (B : Option Addr) (cap : Nat) (w : World) (hl : F.len ≤ 140737488355328) (h64 : F.len ≤ 64) (hs : ∀ z ∈ F.list, z.size ≤ 4611686018427387903) (ht : TreesAt w (fun b => b < w.heap.size) F B) (hr : F.list.all rightT = false) :
  Calls Tryz.prog 74 #[.slice B F.len cap] w (NfaOut (ofS F.list) w) := by
 have HV := Lib.hid (show ofS F.list = .error 6 by unfold ofS; rw [if_neg (by rw [Trees.len_list]; omega), if_pos hr])
 have hd : ¬ (64 : Int) < (F.len : Int) := by omega
 have hb1 : Below w.heap.size w (w.alloc (.cells #[.int .i64 0, .int .i64 0, .slice none 0 0, .slice none 0 0, .slice none 0 0] 43)) := (Below.refl _ _).alloc (Nat.le_refl _) _
 have HB1 := Lib.hid hb1
 have HX1 := Lib.hid (Blk.new w 43 #[.int .i64 0, .int .i64 0, .slice none 0 0, .slice none 0 0, .slice none 0 0])
 have HC := Lib.hid (hasright_go F B cap (w.alloc (.cells #[.int .i64 0, .int .i64 0, .slice none 0 0, .slice none 0 0, .slice none 0 0] 43)) hl (fun z hz => by have := hs z hz; omega) ((ht.below hb1).weak (fun b h _ => by simp; omega)))
 rw [hr] at HC
 clear hr ht hs hb1
 go_enter Tryz.func74, Tryz.ntmps74
 go_wp2_with fail
 refine HC.out.mono ?_
 rintro e w2 ⟨rfl, hb2⟩
 have HB2 := Lib.hid (HB1.out.trans (hb2.mono HB1.out.size))
 have hX2 := HX1.out.below hb2 HX1.out.lt
 have y0 := hX2.cell 0
 have y1 := hX2.cell 1
 have y2 := hX2.cell 2
 have y3 := hX2.cell 3
 have y4 := hX2.cell 4
 have f0 := hX2.frozen 0
 have f1 := hX2.frozen 1
 have f2 := hX2.frozen 2
 have f3 := hX2.frozen 3
 have f4 := hX2.frozen 4
 have HX2 := Lib.hid hX2
 clear hb2 hX2 HC
 dsimp only
 go_wp2
 go_light
 have hX3 := ((((HX2.out.set_ 0 (.int .i64 0)).set_ 1 (.int .i64 0)).set_ 2 (.slice none 0 0)).set_ 3 (.slice none 0 0)).set_ 4 (.slice none 0 0)
 refine bodyPost_ret (ret_nfa Tryz.results74 rfl rfl hX3) rfl ?_
 rw [HV.out]
 exact ⟨((((HB2.out.setCell (p := ⟨w.heap.size, 0, none⟩) (Nat.le_refl _) _).setCell (p := ⟨w.heap.size, 1, none⟩) (Nat.le_refl _) _).setCell (p := ⟨w.heap.size, 2, none⟩) (Nat.le_refl _) _).setCell (p := ⟨w.heap.size, 3, none⟩) (Nat.le_refl _) _).setCell (p := ⟨w.heap.size, 4, none⟩) (Nat.le_refl _) _, rfl⟩
theorem nof_big (F : Trees) (B : Option Addr) (cap : Nat) (w : World) (hl : F.len ≤ 140737488355328) (h64 : F.len ≤ 64) (hs : ∀ z ∈ F.list, z.size ≤ 4611686018427387903) (ht : TreesAt w (fun b => b < w.heap.size) F B) (hr : F.list.all rightT = true) (hbig : 65536 < sizeW F.list) :
  Calls Tryz.prog 74 #[.slice B F.len cap] w (NfaOut (ofS F.list) w) := by
 have HV := Lib.hid (show ofS F.list = .error 7 by unfold ofS; rw [if_neg (by rw [Trees.len_list]; omega), if_neg (by rw [hr]; decide), if_pos hbig])
 have hra : ∀ z ∈ F.list, rightT z = true := fun z hz => List.all_eq_true.1 hr z hz
 have hsz : ∀ z ∈ F.list, z.size ≤ 4096 := fun z hz => rightT_size (hra z hz)
 have hd : ¬ (64 : Int) < (F.len : Int) := by omega
 have hb1 : Below w.heap.size w (w.alloc (.cells #[.int .i64 0, .int .i64 0, .slice none 0 0, .slice none 0 0, .slice none 0 0] 43)) := (Below.refl _ _).alloc (Nat.le_refl _) _
 have HB1 := Lib.hid hb1
 have HX1 := Lib.hid (Blk.new w 43 #[.int .i64 0, .int .i64 0, .slice none 0 0, .slice none 0 0, .slice none 0 0])
 have HC := Lib.hid (hasright_go F B cap (w.alloc (.cells #[.int .i64 0, .int .i64 0, .slice none 0 0, .slice none 0 0, .slice none 0 0] 43)) hl (fun z hz => by have := hs z hz; omega) ((ht.below hb1).weak (fun b h _ => by simp; omega)))
 rw [hr] at HC
 have hdb : (65536 : Int) < ((sizeW F.list : Nat) : Int) := by omega
 clear hr hs hb1 hbig
 go_enter Tryz.func74, Tryz.ntmps74
 go_wp2_with fail
 refine HC.out.mono ?_
 rintro e w2 ⟨rfl, hb2⟩
 have hX2 := HX1.out.below hb2 HX1.out.lt
 have hb12 := HB1.out.trans (hb2.mono HB1.out.size)
 have HT2 := Lib.hid (ht.below hb12)
 have HS2 := Lib.hid (nsize_go F (fun b => b < w.heap.size) B cap w2 hl (fun z hz => by have := hsz z hz; omega) (fun z hz => rightT_nums (hra z hz)) (ht.below hb12))
 have HB2 := Lib.hid hb12
 have HX2 := Lib.hid hX2
 clear hb2 hb12 hX2 HC
 dsimp only
 go_wp2_with fail
 refine HS2.out.mono ?_
 rintro e w3 ⟨rfl, hb3⟩
 have hX3 := HX2.out.below hb3 HX2.out.lt
 have HX3 := Lib.hid hX3
 have HT3 := Lib.hid (HT2.out.below hb3)
 have HB3 := Lib.hid (HB2.out.trans (hb3.mono HB2.out.size))
 have hlt3 : w.heap.size < w3.heap.size := hX3.lt
 clear hb3 HS2 HT2 HX2 HB2
 dsimp only
 clear HT3
 have y0 := hX3.cell 0
 have y1 := hX3.cell 1
 have y2 := hX3.cell 2
 have y3 := hX3.cell 3
 have y4 := hX3.cell 4
 have f0 := hX3.frozen 0
 have f1 := hX3.frozen 1
 have f2 := hX3.frozen 2
 have f3 := hX3.frozen 3
 have f4 := hX3.frozen 4
 clear hX3 ht hra hsz
 generalize sizeW F.list = sz at *
 go_wp2
 go_light
 have hX3 := ((((HX3.out.set_ 0 (.int .i64 0)).set_ 1 (.int .i64 0)).set_ 2 (.slice none 0 0)).set_ 3 (.slice none 0 0)).set_ 4 (.slice none 0 0)
 refine bodyPost_ret (ret_nfa Tryz.results74 rfl rfl hX3) rfl ?_
 rw [HV.out]
 exact ⟨((((HB3.out.setCell (p := ⟨w.heap.size, 0, none⟩) (Nat.le_refl _) _).setCell (p := ⟨w.heap.size, 1, none⟩) (Nat.le_refl _) _).setCell (p := ⟨w.heap.size, 2, none⟩) (Nat.le_refl _) _).setCell (p := ⟨w.heap.size, 3, none⟩) (Nat.le_refl _) _).setCell (p := ⟨w.heap.size, 4, none⟩) (Nat.le_refl _) _, rfl⟩
theorem layOne_ext {x : Nd} (h : rightT x = true) (i : Nat) (m : MachS) : ExtM m (layOne x i m) := ((lay_one h).grows m 0).trans ((ExtM.state _ _).trans (ExtM.link _ _ _))
theorem layAll_ext : ∀ (l : List Nd), (∀ x ∈ l, rightT x = true) → ∀ (i : Nat) (m : MachS), ExtM m (layAll l i m)
 | [], _, i, m => ExtM.refl m
 | x :: l, h, i, m => by
  rw [layAll_cons]
  exact (layOne_ext (h x (by simp)) i m).trans (layAll_ext l (fun y hy => h y (by simp [hy])) _ _)
theorem layAll_app (b : List Nd) : ∀ (a : List Nd) (i : Nat) (m : MachS), layAll (a ++ b) i m = layAll b (i + a.length) (layAll a i m)
 | [], i, m => rfl
 | x :: a, i, m => by
  rw [List.cons_append, layAll_cons, layAll_cons, layAll_app b a]
  rw [List.length_cons, show i + 1 + a.length = i + (a.length + 1) by omega]
theorem layAll_part {l : List Nd} (h : ∀ x ∈ l, rightT x = true) (k : Nat) (m : MachS) : ExtM (layAll (l.take k) 0 m) (layAll l 0 m) := by
 conv => rhs; rw [← List.take_append_drop k l, layAll_app]
 exact layAll_ext _ (fun x hx => h x (List.mem_of_mem_drop hx)) _ _
theorem mach_fits {l : List Nd} (h : ∀ x ∈ l, rightT x = true) (hs : sizeW l ≤ 65536) : FitsM (machS l) ∧ (machS l).states ≤ 65536 := by
 have hg := grown_mach h
 have hc := cAll_le l (fun x hx => rightT_size (h x hx))
 have ht : (65536 : Nat) < topN := by decide
 have h1 := hg.states
 have h2 := hg.few
 unfold sizeW at hs
 refine ⟨⟨by omega, by omega, by omega⟩, by omega⟩
theorem heap_set5 {w : World} {g b : Nat} (hne : b ≠ g) (a0 a1 a2 a3 a4 : Value) : (((((w.setCell ⟨g, 0, none⟩ a0).setCell ⟨g, 1, none⟩ a1).setCell ⟨g, 2, none⟩ a2).setCell ⟨g, 3, none⟩ a3).setCell ⟨g, 4, none⟩ a4).heap[b]? = w.heap[b]? := by
 rw [Below.heap_setCell _ _ _ _ hne, Below.heap_setCell _ _ _ _ hne, Below.heap_setCell _ _ _ _ hne, Below.heap_setCell _ _ _ _ hne, Below.heap_setCell _ _ _ _ hne]
theorem nof_ok (F : Trees) (B : Option Addr) (cap : Nat) (w : World) (hl : F.len ≤ 140737488355328) (h64 : F.len ≤ 64) (hs : ∀ z ∈ F.list, z.size ≤ 4611686018427387903) (ht : TreesAt w (fun b => b < w.heap.size) F B) (hr : F.list.all rightT = true) (hok : sizeW F.list ≤ 65536) :
  Calls Tryz.prog 74 #[.slice B F.len cap] w (NfaOut (ofS F.list) w) := by
 have HV := Lib.hid (show ofS F.list = .ok (machS F.list) by unfold ofS; rw [if_neg (by rw [Trees.len_list]; omega), if_neg (by rw [hr]; decide), if_neg (by omega)])
 have hra : ∀ z ∈ F.list, rightT z = true := fun z hz => List.all_eq_true.1 hr z hz
 have hsz : ∀ z ∈ F.list, z.size ≤ 4096 := fun z hz => rightT_size (hra z hz)
 have HRA := Lib.hid hra
 have HF := Lib.hid (mach_fits hra hok).1
 have hd : ¬ (64 : Int) < (F.len : Int) := by omega
 have hb1 : Below w.heap.size w (w.alloc (.cells #[.int .i64 0, .int .i64 0, .slice none 0 0, .slice none 0 0, .slice none 0 0] 43)) := (Below.refl _ _).alloc (Nat.le_refl _) _
 have HB1 := Lib.hid hb1
 have HX1 := Lib.hid (Blk.new w 43 #[.int .i64 0, .int .i64 0, .slice none 0 0, .slice none 0 0, .slice none 0 0])
 have HC := Lib.hid (hasright_go F B cap (w.alloc (.cells #[.int .i64 0, .int .i64 0, .slice none 0 0, .slice none 0 0, .slice none 0 0] 43)) hl (fun z hz => by have := hs z hz; omega) ((ht.below hb1).weak (fun b h _ => by simp; omega)))
 rw [hr, show (!true) = false from rfl] at HC
 have hdb : decide ((65536 : Int) < ((sizeW F.list : Nat) : Int)) = false := decide_eq_false (by omega)
 clear hr hs hb1 hok
 go_enter Tryz.func74, Tryz.ntmps74
 go_wp2_with fail
 refine HC.out.mono ?_
 rintro e w2 ⟨rfl, hb2⟩
 have hX2 := HX1.out.below hb2 HX1.out.lt
 have hb12 := HB1.out.trans (hb2.mono HB1.out.size)
 have HT2 := Lib.hid (ht.below hb12)
 have HS2 := Lib.hid (nsize_go F (fun b => b < w.heap.size) B cap w2 hl (fun z hz => by have := hsz z hz; omega) (fun z hz => rightT_nums (hra z hz)) (ht.below hb12))
 have HB2 := Lib.hid hb12
 have HX2 := Lib.hid hX2
 clear hb2 hb12 hX2 HC
 dsimp only
 go_wp2_with fail
 refine HS2.out.mono ?_
 rintro e w3 ⟨rfl, hb3⟩
 have hX3 := HX2.out.below hb3 HX2.out.lt
 have HX3 := Lib.hid hX3
 have HT3 := Lib.hid (HT2.out.below hb3)
 have HB3 := Lib.hid (HB2.out.trans (hb3.mono HB2.out.size))
 have hlt3 : w.heap.size < w3.heap.size := hX3.lt
 clear hb3 HS2 HT2 HX2 HB2
 dsimp only
 clear ht hra hsz hX3
 generalize sizeW F.list = sz at *
 have hlt4 : w.heap.size ≤ (w3.alloc (.cells #[.int .i64 0, .int .i64 0, .slice none 0 0, .slice none 0 0, .slice none 0 0] 152)).heap.size := by simp; omega
 have hL4 : LayAt (w3.alloc (.cells #[.int .i64 0, .int .i64 0, .slice none 0 0, .slice none 0 0, .slice none 0 0] 152)) w.heap.size w3.heap.size (fun b => b = w3.heap.size) ⟨[], [], []⟩ :=
  ⟨fun b hb => by subst hb; exact ⟨by omega, by simp⟩, rfl, .slice none 0 0, .slice none 0 0, .slice none 0 0, Blk.new w3 _ _, ⟨⟨rfl, .inl ⟨rfl, rfl⟩⟩, ⟨rfl, .inl ⟨rfl, rfl⟩⟩, ⟨rfl, .inl ⟨rfl, rfl⟩⟩⟩, ⟨fun b hb => by simp [Value.ownBlock] at hb, fun b hb => by simp [Value.ownBlock] at hb, fun b hb => by simp [Value.ownBlock] at hb⟩⟩
 have HC4 := Lib.hid (lstate_go w.heap.size w3.heap.size _ ⟨[], [], []⟩ 0 _ hL4 hlt4 (by decide))
 rw [show ((MachS.states ⟨[], [], []⟩ : Nat) : Int) = 0 from rfl] at HC4
 have HX4 := Lib.hid (HX3.out.alloc (.cells #[.int .i64 0, .int .i64 0, .slice none 0 0, .slice none 0 0, .slice none 0 0] 152))
 have HB4 := Lib.hid (HB3.out.alloc (by omega) (.cells #[.int .i64 0, .int .i64 0, .slice none 0 0, .slice none 0 0, .slice none 0 0] 152))
 have HT4 := Lib.hid (HT3.out.below ((Below.refl _ _).alloc (Nat.le_refl _) (.cells #[.int .i64 0, .int .i64 0, .slice none 0 0, .slice none 0 0, .slice none 0 0] 152)))
 clear hL4 HT3 HB3
 go_wp2_with fail
 refine HC4.out.mono ?_
 rintro e w5 ⟨rfl, S5, hL5, hM5⟩
 have HR5 := Lib.hid (show ∃ S', LayAt w5 w.heap.size w3.heap.size S' (layAll (F.list.take 0) 0 ⟨[0], [], []⟩) ∧ Moves w.heap.size (fun b => b = w3.heap.size) (w3.alloc (.cells #[.int .i64 0, .int .i64 0, .slice none 0 0, .slice none 0 0, .slice none 0 0] 152)) S' w5 from ⟨S5, hL5, hM5⟩)
 clear hL5 hM5 HC4
 dsimp only
 go_wp2
 have hlt5 : w.heap.size < w5.heap.size := by obtain ⟨_, _, h⟩ := HR5.out; have := h.size; simp at this; omega
 go_loopw [25] (fun i' wr => ∃ k : Nat, i' = .int .i64 (k : Int) ∧ k ≤ F.len ∧ Hid (∃ S', LayAt wr w.heap.size w3.heap.size S' (layAll (F.list.take k) 0 ⟨[0], [], []⟩) ∧ Moves w.heap.size (fun b => b = w3.heap.size) (w3.alloc (.cells #[.int .i64 0, .int .i64 0, .slice none 0 0, .slice none 0 0, .slice none 0 0] 152)) S' wr)) (fun i' _ => F.len - (intOf i').toNat)
 case atStart => exact ⟨0, rfl, Nat.zero_le _, HR5⟩
 case round =>
  clear HR5 hlt5
  obtain ⟨k, rfl, hk, HM⟩ := hrel
  obtain ⟨S1, hL1, hM1⟩ := HM.out
  have hne : w.heap.size ≠ w3.heap.size := by omega
  have hXr := HX4.out.moves hM1 hne
  have hwr : w.heap.size < wr.heap.size := hXr.lt
  by_cases hlt : k < F.len
  ·obtain ⟨z, hz⟩ : ∃ z, F.list[k]? = some z := ⟨_, List.getElem?_eq_getElem (by rw [Trees.len_list]; exact hlt)⟩
   obtain ⟨b, o, C, capc, rfl, hbb, _, ⟨c0, c1, c2, c3, c4, c5, c6, c7⟩, hkz⟩ := (HT4.out.moves hM1).get hz
   have hdl : (k : Int) < (F.len : Int) := by omega
   have hblk := World.block_lt_of_cell? wr _ c0
   have hzr := HRA.out z (List.mem_of_getElem? hz)
   have hts := take_snocF hz
   have hlk : (F.list.take k).length = k := by rw [List.length_take, Trees.len_list]; omega
   have hone : layAll (F.list.take (k + 1)) 0 ⟨[0], [], []⟩ = layOne z k (layAll (F.list.take k) 0 ⟨[0], [], []⟩) := by rw [hts, layAll_snoc, hlk, Nat.zero_add]
   have hfk : FitsM (layOne z k (layAll (F.list.take k) 0 ⟨[0], [], []⟩)) := by
    rw [← hone]
    exact HF.out.of (layAll_part HRA.out (k + 1) _)
   have hf2 : FitsM ((z.lay (layAll (F.list.take k) 0 ⟨[0], [], []⟩) 0).1.state (k + 1)) := hfk.of (ExtM.link _ _ _)
   have hf1 : FitsM (z.lay (layAll (F.list.take k) 0 ⟨[0], [], []⟩) 0).1 := hf2.of (ExtM.state _ _)
   have hbA : Below wr.heap.size wr (wr.alloc (.cells (ndA z C capc) 28)) := (Below.refl _ _).alloc (Nat.le_refl _) _
   have HI := Lib.hid (lay_right hzr C capc 0 w.heap.size w3.heap.size S1 (layAll (F.list.take k) 0 ⟨[0], [], []⟩) (wr.alloc (.cells (ndA z C capc) 28)) (hkz.below hbA) (hL1.alloc _) (by simp; omega) hf1)
   have HM1 := Lib.hid (hM1.alloc hlt4 (.cells (ndA z C capc) 28))
   have HO := Lib.hid hone
   have HFK := Lib.hid (show _ ∧ _ from ⟨hf1, hf2⟩)
   have hwa : w.heap.size < (wr.alloc (.cells (ndA z C capc) 28)).heap.size := by simp; omega
   clear hz hkz hbA hts hL1 hM1 HM hzr hlk hone hfk hf1 hf2 hXr
   unfold layOne at HO
   generalize layAll (F.list.take k) 0 ⟨[0], [], []⟩ = mk at *
   unfold ndV at HI
   unfold ndA at HM1 HI hwa
   go_wp2_with fail
   refine HI.out.mono ?_
   rintro e w6 ⟨rfl, S6, hL6, hM6⟩
   have hs6 := hM6.size
   have HC := Lib.hid (lstate_go w.heap.size w3.heap.size S6 _ (k + 1) w6 hL6 (by omega) HFK.out.1.1)
   have HM6 := Lib.hid (HM1.out.trans hM6)
   clear hM6 hL6 HI c0 c1 c2 c3 c4 c5 c6 c7 HM1 hbb hblk
   generalize (z.lay mk 0).2 = e1 at *
   generalize (z.lay mk 0).1 = m1 at *
   dsimp only
   go_wp2_with fail
   refine HC.out.mono ?_
   rintro e w7 ⟨rfl, S7, hL7, hM7⟩
   have hs7 := hM7.size
   have HC7 := Lib.hid (llink_go w.heap.size w3.heap.size S7 _ e1 m1.states w7 hL7 (by omega) HFK.out.2.2.1)
   have HM7 := Lib.hid (HM6.out.trans hM7)
   clear hM7 hL7 HC HM6
   dsimp only
   go_wp2_with fail
   refine HC7.out.mono ?_
   rintro e w8 ⟨rfl, S8, hL8, hM8⟩
   have HR8 := Lib.hid (show ∃ S', LayAt w8 w.heap.size w3.heap.size S' _ ∧ Moves w.heap.size (fun b => b = w3.heap.size) (w3.alloc (.cells #[.int .i64 0, .int .i64 0, .slice none 0 0, .slice none 0 0, .slice none 0 0] 152)) S' w8 from ⟨S8, hL8, HM7.out.trans hM8⟩)
   clear hM8 hL8 HC7 HM7
   dsimp only
   go_wp2
   go_roundw
   case rel => exact ⟨k + 1, by go_num, by omega, by rw [HO.out]; exact HR8⟩
   case measure => simp [intOf]; omega
  ·obtain rfl : k = F.len := by omega
   have hdl : ¬ ((F.len : Int) < (F.len : Int)) := by omega
   have hV : F.list.take F.len = F.list := by rw [← Trees.len_list, List.take_length]
   rw [hV] at hL1
   have hmm : layAll F.list 0 ⟨[0], [], []⟩ = machS F.list := rfl
   rw [hmm] at hL1
   have hns := hM1.notIn (b := w.heap.size) (by simp; omega) hne
   obtain ⟨h0, hg, L, E, A, hG, hR, h3⟩ := hL1
   obtain ⟨A1, k1, rfl⟩ := own_slice hR.l
   obtain ⟨A2, k2, rfl⟩ := own_slice hR.e
   obtain ⟨A3, k3, rfl⟩ := own_slice hR.a
   have s0 := hG.cell 0
   have s1 := hG.cell 1
   have s2 := hG.cell 2
   have s3 := hG.cell 3
   have s4 := hG.cell 4
   have y0 := hXr.cell 0
   have y1 := hXr.cell 1
   have y2 := hXr.cell 2
   have y3 := hXr.cell 3
   have y4 := hXr.cell 4
   have f0 := hXr.frozen 0
   have f1 := hXr.frozen 1
   have f2 := hXr.frozen 2
   have f3 := hXr.frozen 3
   have f4 := hXr.frozen 4
   have hltg := hG.lt
   have HXr := Lib.hid hXr
   have HQ := Lib.hid (show _ ∧ _ ∧ _ ∧ _ from ⟨hR, h3, hns, HB4.out.trans hM1.below⟩)
   clear hM1 HM h0 hg hG hR h3 hV hmm hns hXr HX4 HB4 HT4
   generalize machS F.list = mf at *
   go_wp2
   go_light
   have hX5 := ((((HXr.out.set_ 0 (.int .i64 (mf.states : Int))).set_ 1 (.int .i64 0)).set_ 2 (.slice A1 mf.links.length k1)).set_ 3 (.slice A2 mf.edges.length k2)).set_ 4 (.slice A3 mf.accept.length k3)
   refine bodyPost_ret (ret_nfa Tryz.results74 rfl rfl hX5) rfl ?_
   rw [HV.out]
   refine ⟨((((HQ.out.2.2.2.setCell (p := ⟨w.heap.size, 0, none⟩) (Nat.le_refl _) _).setCell (p := ⟨w.heap.size, 1, none⟩) (Nat.le_refl _) _).setCell (p := ⟨w.heap.size, 2, none⟩) (Nat.le_refl _) _).setCell (p := ⟨w.heap.size, 3, none⟩) (Nat.le_refl _) _).setCell (p := ⟨w.heap.size, 4, none⟩) (Nat.le_refl _) _, _, _, _, rfl, ?_⟩
   exact HQ.out.1.keep HQ.out.2.1 (fun b hb => heap_set5 (show b ≠ w.heap.size from fun e => HQ.out.2.2.1 (by rw [← e]; exact hb)) _ _ _ _ _)
theorem nof_go (F : Trees) (B : Option Addr) (cap : Nat) (w : World) (hl : F.len ≤ 140737488355328) (hs : ∀ z ∈ F.list, z.size ≤ 4611686018427387903) (ht : TreesAt w (fun b => b < w.heap.size) F B) :
  Calls Tryz.prog 74 #[.slice B F.len cap] w (NfaOut (ofS F.list) w) := by
 rcases Nat.lt_or_ge 64 F.len with h | h
 ·exact nof_many F B cap w hl h
 cases hr : F.list.all rightT with
 | false => exact nof_kind F B cap w hl h hs ht hr
 | true =>
  rcases Nat.lt_or_ge 65536 (sizeW F.list) with hb | hb
  ·exact nof_big F B cap w hl h hs ht hr hb
  ·exact nof_ok F B cap w hl h hs ht hr hb
end Go.Proofs.YtfekpkelmliejaaGreatDoor
