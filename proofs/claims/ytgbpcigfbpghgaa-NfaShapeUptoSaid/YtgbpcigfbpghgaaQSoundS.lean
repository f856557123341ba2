/-
  What is read of any text may be; where something is wrong its place is within the text, or just behind it. No program in sight.
-/
import Derived.Test.YtgbpcigfbpghgaaQParseSz
namespace Go.Proofs.Ytgbpcigfbpghgaa
set_option linter.unusedSimpArgs false
set_option linter.unusedVariables false
set_option maxRecDepth 100000

/-! Places of what is wrong. -/
theorem charS_at {bs : List Nat} {s i : Nat} {k q : Int} (hs : s ≤ bs.length) (h : charS bs s i = .error (k, q)) : 0 ≤ q ∧ q ≤ bs.length := by
  unfold charS at h
  split at h
  · simp at h; omega
  split at h
  · split at h
    · cases h
    · simp at h; omega
  split at h
  · simp at h; omega
  · cases h
theorem itemS_at {bs : List Nat} {s i : Nat} {k q : Int} (hs : s ≤ bs.length) (hi : i ≤ bs.length) (h : itemS bs s i = .error (k, q)) : 0 ≤ q ∧ q ≤ bs.length := by
  unfold itemS at h
  cases h1 : charS bs s i with
  | error e =>
    rw [h1] at h
    obtain ⟨a, b⟩ := e
    have := charS_at hs h1
    simp at h
    omega
  | ok x =>
    obtain ⟨lo, j⟩ := x
    rw [h1] at h
    dsimp only at h
    split at h
    · cases h2 : charS bs s (j + 1) with
      | error e =>
        rw [h2] at h
        obtain ⟨a, b⟩ := e
        have := charS_at hs h2
        simp at h
        omega
      | ok y =>
        obtain ⟨hi, m⟩ := y
        rw [h2] at h
        dsimp only at h
        split at h
        · simp at h; omega
        · cases h
    · cases h
theorem itemsS_at {bs : List Nat} (hb : ∀ x ∈ bs, x < 256) {s : Nat} (hs : s ≤ bs.length) : ∀ {f i : Nat} {p : Nat → Bool} {k q : Int}, i ≤ bs.length → itemsS bs s f i p = .error (k, q) → 0 ≤ q ∧ q ≤ bs.length
  | 0, i, p, k, q, hi, h => by
    have := Except.error.inj h
    simp at this
    omega
  | f + 1, i, p, k, q, hi0, h => by
    cases hi : itemS bs s i with
    | error e =>
      rw [itemsS_bad hi] at h
      obtain ⟨a, b⟩ := e
      have := itemS_at hs hi0 hi
      simp at h
      omega
    | ok x =>
      obtain ⟨lo, hi', m⟩ := x
      have hk := itemS_ok hb hi
      rw [itemsS_ok hi] at h
      cases hc : hasAt bs (m : Int) 93
      · rw [restS_go hc] at h
        exact itemsS_at hb hs (by omega) h
      · rw [restS_end hc] at h; cases h
theorem readS_at {bs : List Nat} (hb : ∀ x ∈ bs, x < 256) {i : Int} {k q : Int} (h : readS bs i = .error (k, q)) : 0 ≤ q ∧ q ≤ bs.length := by
  cases h1 : hasAt bs i 91
  · rw [readS_no h1] at h; simp at h; omega
  obtain ⟨m, rfl, hm, _⟩ := hasAt_yes h1
  cases h2 : hasAt bs ((m : Int) + 1) 94
  · rw [readS_plain h1 h2] at h
    exact itemsS_at hb (by omega) (by omega) h
  · rw [readS_turned h1 h2] at h
    obtain ⟨m2, hm2, hm3, _⟩ := hasAt_yes h2
    cases h3 : itemsS bs m (bs.length + 1) (m + 2) (fun _ => false) with
    | error e =>
      obtain ⟨a, b⟩ := e
      rw [h3] at h
      have := itemsS_at hb (by omega) (by omega) h3
      have h4 : (a, b) = (k, q) := Except.error.inj h
      simp at h4
      omega
    | ok x =>
      obtain ⟨p, j⟩ := x
      rw [h3] at h; cases h
theorem lexS_at {bs : List Nat} (hb : ∀ x ∈ bs, x < 256) {i : Nat} (hi : i < bs.length) {k q : Int} (h : lexS bs i = .error (k, q)) : 0 ≤ q ∧ q ≤ bs.length := by
  unfold lexS at h
  split at h
  · cases h
  split at h
  · split at h
    · cases h
    · simp at h; omega
  split at h
  · split at h
    · cases h
    · rename_i e he
      have h1 := Except.error.inj h
      rw [h1] at he
      exact readS_at hb he
  split at h
  · have := repS_err h; omega
  split at h
  · simp at h; omega
  split at h
  · cases h
  · cases h
theorem splitF_at {bs : List Nat} (hb : ∀ x ∈ bs, x < 256) : ∀ {f i : Nat} {l : List Lex} {k q : Int}, splitF bs f i l = .error (k, q) → 0 ≤ q ∧ q ≤ bs.length
  | 0, i, l, k, q, h => by
    have := Except.error.inj h
    simp at this
    omega
  | f + 1, i, l, k, q, h => by
    by_cases hi : bs.length ≤ i
    · rw [splitF_end hi] at h; cases h
    · cases hx : lexS bs i with
      | error e =>
        rw [splitF_bad (by omega) hx] at h
        cases h
        exact lexS_at hb (by omega) hx
      | ok x =>
        obtain ⟨x, j⟩ := x
        rw [splitF_ok (by omega) hx] at h
        exact splitF_at hb h
theorem splitS_at {bs : List Nat} (hb : ∀ x ∈ bs, x < 256) {k q : Int} (h : splitS bs = .error (k, q)) : 0 ≤ q ∧ q ≤ bs.length := by
  by_cases hl : 65536 < bs.length
  · rw [splitS_long hl] at h
    simp at h
    omega
  · rw [splitS_go (by omega)] at h
    exact splitF_at hb h
theorem seg_at {bs : List Nat} : ∀ {M : List Lex} {i k : Nat}, Seg bs i M k → ∀ x ∈ M, 0 ≤ x.place ∧ x.place ≤ bs.length
  | [], i, k, _, x, hx => by cases hx
  | y :: M, i, k, ⟨hi, j, hy, h⟩, x, hx => by
    rcases List.mem_cons.1 hx with rfl | hx
    · have := lexS_place hy
      omega
    · exact seg_at h x hx
theorem wrongS_at {P : Int → Prop} : ∀ (L : List Lex) (op : List Int) (p : Bool) {k q : Int}, (∀ x ∈ L, P x.place) → (∀ x ∈ op, P x) → wrongS op p L = some (k, q) → P q
  | [], [], p, k, q, _, _, h => by rw [wrongS] at h; cases h
  | [], x :: op, p, k, q, _, ho, h => by
    rw [wrongS] at h
    cases h
    exact ho _ (by simp)
  | y :: L, op, p, k, q, hL, ho, h => by
    have hy := hL y (by simp)
    have hL' : ∀ x ∈ L, P x.place := fun x hx => hL x (List.mem_cons_of_mem y hx)
    unfold wrongS at h
    split at h
    · exact wrongS_at L _ _ hL' ho h
    split at h
    · split at h
      · cases h; exact hy
      · exact wrongS_at L _ _ hL' (fun x hx => by
          rcases List.mem_cons.1 hx with rfl | hx
          · exact hy
          · exact ho x hx) h
    split at h
    · split at h
      · cases h; exact hy
      · exact wrongS_at L _ _ hL' (fun x hx => ho x (List.mem_cons_of_mem _ hx)) h
    split at h
    · exact wrongS_at L _ _ hL' ho h
    split at h
    · cases h; exact hy
    · exact wrongS_at L _ _ hL' ho h
theorem lexemesS_at {n : Nat} {L : List Lex} (hL : ∀ x ∈ L, 0 ≤ x.place ∧ x.place ≤ n) {k q : Int} (h : lexemesS L = .error (k, q)) : 0 ≤ q ∧ q ≤ n := by
  unfold lexemesS at h
  split at h
  · simp at h; omega
  rename_i hall
  split at h
  · rename_i hl
    have := hL _ (List.getElem_mem hl)
    have h1 := Except.error.inj h
    simp at h1
    omega
  · have hk : Kinds L := fun y hy => by
      have h1 : rightS y = true := by
        have : L.all rightS = true := by simpa using hall
        exact List.all_eq_true.1 this y hy
      have := rightS_cases h1
      omega
    have hw := read_wrong L hk
    split at h
    · rename_i e he
      rw [he] at hw
      have h1 := Except.error.inj h
      subst h1
      exact wrongS_at (P := fun z => 0 ≤ z ∧ z ≤ n) L [] false hL (by simp) hw
    · cases h
/-- Where something is wrong the place is within the text, or just behind it. -/
theorem parseS_at {bs : List Nat} (hb : ∀ x ∈ bs, x < 256) {k q : Int} (h : parseS bs = .error (k, q)) : 0 ≤ q ∧ q ≤ bs.length := by
  unfold parseS at h
  cases hs : splitS bs with
  | error e =>
    rw [hs] at h
    have h1 := Except.error.inj h
    subst h1
    exact splitS_at hb hs
  | ok L =>
    rw [hs] at h
    exact lexemesS_at (seg_at ((splitS_seg hb).1 hs).2) h

/-! Trees that may be. -/
/-- A node may be, without its kids. -/
def Alone (x : Nd) : Prop :=
  (x.kind = 3 ∧ x.kids.len = 0 ∧ x.lo = 0 ∧ x.hi = 0) ∨
  (x.set = 0 ∧ ((x.kind = 2 ∧ x.kids.len = 0 ∧ x.lo = 0 ∧ x.hi = 0) ∨ ((x.kind = 4 ∨ x.kind = 5) ∧ 2 ≤ x.kids.len ∧ x.lo = 0 ∧ x.hi = 0) ∨
    ((x.kind = 6 ∨ x.kind = 7 ∨ x.kind = 8) ∧ x.kids.len = 1 ∧ x.lo = 0 ∧ x.hi = 0) ∨ (x.kind = 9 ∧ x.kids.len = 1 ∧ 0 ≤ x.lo ∧ x.lo ≤ 1000 ∧ (x.hi = -1 ∨ x.lo ≤ x.hi ∧ x.hi ≤ 1000))))
def Sound : Trees → Prop
  | .nil => True
  | .cons k s ks lo hi r => Alone ⟨k, s, ks, lo, hi⟩ ∧ Sound ks ∧ Sound r
def SoundN (x : Nd) : Prop := Alone x ∧ Sound x.kids
theorem sound_of : ∀ {l : List Nd}, (∀ x ∈ l, SoundN x) → Sound (Trees.of l)
  | [], _ => trivial
  | x :: l, h => ⟨(h x (by simp)).1, (h x (by simp)).2, sound_of (fun y hy => h y (List.mem_cons_of_mem x hy))⟩
theorem sound_flat {k : Int} (hk : k = 4 ∨ k = 5) : ∀ {l : List Nd}, l ≠ [] → (∀ x ∈ l, SoundN x) → SoundN (flatN k l)
  | [], h, _ => absurd rfl h
  | [x], _, h => h x (by simp)
  | x :: y :: l, _, h => ⟨.inr ⟨rfl, .inr (.inl ⟨hk, by show 2 ≤ (Trees.of (x :: y :: l)).len; rw [Trees.len_of]; simp, rfl, rfl⟩)⟩, sound_of h⟩
theorem sound_empty : SoundN emptyN := ⟨.inr ⟨rfl, .inl ⟨rfl, rfl, rfl, rfl⟩⟩, trivial⟩
theorem sound_part {l : List Nd} (h : ∀ x ∈ l, SoundN x) : SoundN (partN l) := by
  cases l with
  | nil => exact sound_empty
  | cons x l => exact sound_flat (.inl rfl) (by simp) h
theorem sound_post {y : Lex} {x : Nd} (hy : rightS y = true) (hp : isPost y.kind = true) (hx : SoundN x) : SoundN (postN y x) := by
  have hc := rightS_cases hy
  have h5 := (isPost_iff _).1 hp
  unfold postN
  split
  · rename_i h8
    refine ⟨.inr ⟨rfl, .inr (.inr (.inr ⟨rfl, rfl, ?_, ?_, ?_⟩))⟩, sound_of (by simpa using hx)⟩
    · show 0 ≤ y.lo; omega
    · show y.lo ≤ 1000; omega
    · show y.hi = -1 ∨ y.lo ≤ y.hi ∧ y.hi ≤ 1000; omega
  · refine ⟨.inr ⟨rfl, .inr (.inr (.inl ⟨?_, rfl, rfl, rfl⟩))⟩, sound_of (by simpa using hx)⟩
    show y.kind + 1 = 6 ∨ y.kind + 1 = 7 ∨ y.kind + 1 = 8
    omega
theorem sound_posts : ∀ (L : List Lex) (x : Nd), (∀ y ∈ L, rightS y = true) → SoundN x → SoundN (postsG x L).1
  | [], x, _, h => h
  | y :: L, x, hL, h => by
    unfold postsG
    split
    · rename_i hp
      exact sound_posts L _ (fun z hz => hL z (List.mem_cons_of_mem y hz)) (sound_post (hL y (by simp)) hp h)
    · exact h
theorem readG_sound (n : Nat) : (∀ op acc L x R, (∀ y ∈ L, rightS y = true) → (∀ y ∈ acc, SoundN y) → altG n op acc L = .ok (x, R) → SoundN x) ∧
    (∀ op acc L ps R, (∀ y ∈ L, rightS y = true) → (∀ y ∈ acc, SoundN y) → piecesG n op acc L = .ok (ps, R) → ∀ y ∈ ps, SoundN y) ∧
    (∀ op L x R, (∀ y ∈ L, rightS y = true) → atomG n op L = .ok (some x, R) → SoundN x) := by
  induction n with
  | zero => exact ⟨fun _ _ _ _ _ _ _ h => (by rw [altG] at h; cases h), fun _ _ _ _ _ _ _ h => (by rw [piecesG] at h; cases h), fun _ _ _ _ _ h => (by rw [atomG] at h; cases h)⟩
  | succ n ih =>
    obtain ⟨ia, ip, it⟩ := ih
    obtain ⟨sa, sp, st⟩ := readG_suf n
    refine ⟨fun op acc L x R hL ha h => ?_, fun op acc L ps R hL ha h => ?_, fun op L x R hL h => ?_⟩
    · cases hp : piecesG n op [] L with
      | error e => rw [altG_bad hp] at h; cases h
      | ok r =>
        obtain ⟨ps, R1⟩ := r
        rw [altG_ok hp] at h
        have h1 := sound_part (ip _ _ _ _ _ hL (by simp) hp)
        have hs := sp _ _ _ _ _ hp
        have ha' : ∀ y ∈ acc ++ [partN ps], SoundN y := fun y hy => by
          rcases List.mem_append.1 hy with hy | hy
          · exact ha y hy
          · rw [List.mem_singleton.1 hy]; exact h1
        cases R1 with
        | nil => rw [tailG_nil] at h; cases h; exact sound_flat (.inr rfl) (by simp) ha'
        | cons c R' =>
          by_cases h4 : c.kind = 4
          · rw [tailG_bar h4] at h
            exact ia _ _ _ _ _ (fun y hy => hL y (hs.subset (List.mem_cons_of_mem c hy))) ha' h
          · rw [tailG_stop h4] at h
            cases h
            exact sound_flat (.inr rfl) (by simp) ha'
    · cases hp : atomG n op L with
      | error e => rw [piecesG_bad hp] at h; cases h
      | ok r =>
        obtain ⟨x, R1⟩ := r
        cases x with
        | none => rw [piecesG_end hp] at h; cases h; exact ha
        | some x =>
          have hs := (st _ _ _ _ hp).1
          rw [piecesG_go hp] at h
          have h1 := sound_posts R1 x (fun y hy => hL y (hs.subset hy)) (it _ _ _ _ hL hp)
          refine ip _ _ _ _ _ (fun y hy => hL y (hs.subset ((postsG_suf R1 x).subset hy))) (fun y hy => ?_) h
          rcases List.mem_append.1 hy with hy | hy
          · exact ha y hy
          · rw [List.mem_singleton.1 hy]; exact h1
    · cases L with
      | nil => rw [atomG_nil] at h; cases h
      | cons y L =>
        have hL' : ∀ z ∈ L, rightS z = true := fun z hz => hL z (List.mem_cons_of_mem y hz)
        by_cases h1 : y.kind = 1
        · rw [atomG_set h1] at h
          cases h
          exact ⟨.inl ⟨rfl, rfl, rfl, rfl⟩, trivial⟩
        by_cases h2 : y.kind = 2
        · rw [atomG, if_neg h1, if_pos h2] at h
          split at h
          · cases h
          split at h
          · cases h
          · rename_i x' R' hx
            split at h
            · cases h
            · rename_i c R''
              split at h
              · cases h
                exact ia _ _ _ _ _ hL' (by simp) hx
              · cases h
        rw [atomG, if_neg h1, if_neg h2] at h
        split at h
        · cases h
        split at h <;> cases h
theorem lexemesS_sound {L : List Lex} {x : Nd} (h : lexemesS L = .ok x) : SoundN x := by
  unfold lexemesS at h
  split at h
  · cases h
  rename_i hall
  split at h
  · cases h
  · have hL : ∀ y ∈ L, rightS y = true := by
      have : L.all rightS = true := by simpa using hall
      exact List.all_eq_true.1 this
    split at h
    · cases h
    · rename_i y R he
      cases h
      exact (readG_sound _).1 _ _ _ _ _ hL (by simp) he
theorem parseS_sound {bs : List Nat} {x : Nd} (h : parseS bs = .ok x) : SoundN x := by
  unfold parseS at h
  split at h
  · cases h
  · exact lexemesS_sound h

end Go.Proofs.Ytgbpcigfbpghgaa
