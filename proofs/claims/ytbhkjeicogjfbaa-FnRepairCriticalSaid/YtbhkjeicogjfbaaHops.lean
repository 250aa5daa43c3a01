/- Next hops and shortest paths in plain Lean. Conditions: the graph is valid. -/
import Derived.Test.YtbhkjeicogjfbaaUsed
namespace Go.Proofs.Ytbhkjeicogjfbaa

/-- m is a next hop of x towards y. -/
def Hp (g : Gr) (y x m : Int) : Prop := ∃ c, Ed g x m c ∧ 0 ≤ D g y m ∧ D g y m + c = D g y x
noncomputable def hopL (g : Gr) (y x : Int) : List Int := selTo (Hp g y x) g.n.toNat
theorem Hp.lt {g : Gr} (hg : GV g) {y x m : Int} (h : Hp g y x m) : Nd g x ∧ Nd g m ∧ 0 ≤ D g y m ∧ D g y m < D g y x := by
  obtain ⟨c, e, h1, h2⟩ := h
  obtain ⟨hx, hm, hc, _⟩ := e.nd hg
  exact ⟨hx, hm, h1, by omega⟩
theorem hp_ex {g : Gr} (hg : GV g) {y x : Int} (hy : Nd g y) (hx : Nd g x) (h : 0 ≤ D g y x) (hne : x ≠ y) : ∃ m, Hp g y x m := by
  obtain ⟨m, c, e, h1, h2⟩ := D_pred hg hy hx h hne
  exact ⟨m, c, e.symm, h1, h2⟩
theorem hp_self {g : Gr} (hg : GV g) {y m : Int} (hy : Nd g y) : ¬ Hp g y y m := fun h => by
  have := h.lt hg
  have := D_self hg hy
  omega
theorem hopL_mem {g : Gr} (hg : GV g) {y x m : Int} : m ∈ hopL g y x ↔ Hp g y x m := by
  have hn := hg.n
  unfold hopL
  rw [selTo_mem]
  refine ⟨fun h => h.2, fun h => ⟨?_, h⟩⟩
  have := (h.lt hg).2.1
  unfold Nd at this
  omega
theorem hopL_ne {g : Gr} (hg : GV g) {y x : Int} (hy : Nd g y) (hx : Nd g x) (h : 0 ≤ D g y x) (hne : x ≠ y) : ∃ m t, hopL g y x = m :: t ∧ Hp g y x m := by
  obtain ⟨m, hm⟩ := hp_ex hg hy hx h hne
  have hm := (hopL_mem hg).2 hm
  cases hl : hopL g y x with
  | nil => rw [hl] at hm; cases hm
  | cons a t => exact ⟨a, t, rfl, (hopL_mem hg).1 (by rw [hl]; simp)⟩
theorem hopL_self {g : Gr} (hg : GV g) {y : Int} (hy : Nd g y) : hopL g y y = [] := by
  apply List.eq_nil_iff_forall_not_mem.2
  intro m hm
  exact hp_self hg hy ((hopL_mem hg).1 hm)
theorem hopL_far {g : Gr} (hg : GV g) {y x : Int} (h : D g y x < 0) : hopL g y x = [] := by
  apply List.eq_nil_iff_forall_not_mem.2
  intro m hm
  have := ((hopL_mem hg).1 hm).lt hg
  omega

theorem hop_head {g : Gr} (hg : GV g) {y x m : Int} {t : List Int} (h : hopL g y x = m :: t) : Hp g y x m := (hopL_mem hg).1 (by rw [h]; simp)
/-- The shortest path from x to y over the smallest next hops. -/
inductive Pt (g : Gr) (y : Int) : Int → List Int → Prop
  | done : Pt g y y [y]
  | step {x m : Int} {t L : List Int} : x ≠ y → hopL g y x = m :: t → Pt g y m L → Pt g y x (x :: L)
theorem Pt.uniq {g : Gr} {y x : Int} {L : List Int} (h : Pt g y x L) : ∀ {L'}, Pt g y x L' → L = L' := by
  induction h with
  | done =>
    intro L' h'
    cases h' with
    | done => rfl
    | step h1 _ _ => exact absurd rfl h1
  | step h1 h2 h3 ih =>
    intro L' h'
    cases h' with
    | done => exact absurd rfl h1
    | step k1 k2 k3 =>
      rw [h2] at k2
      cases k2
      rw [ih k3]
theorem Pt.reach {g : Gr} (hg : GV g) {y x : Int} (hy : Nd g y) {L : List Int} (h : Pt g y x L) : 0 ≤ D g y x ∧ Nd g x := by
  cases h with
  | done => exact ⟨by rw [D_self hg hy]; exact Int.le_refl _, hy⟩
  | step h1 h2 h3 =>
    have := (hop_head hg h2).lt hg
    exact ⟨by omega, this.1⟩
theorem pt_ex {g : Gr} (hg : GV g) {y : Int} (hy : Nd g y) : ∀ (n : Nat) (x : Int), Nd g x → 0 ≤ D g y x → (D g y x).toNat ≤ n → ∃ L, Pt g y x L := by
  intro n
  induction n with
  | zero =>
    intro x hx h hn
    have := D_zero hg hy hx (by omega)
    subst this
    exact ⟨_, .done⟩
  | succ n ih =>
    intro x hx h hn
    by_cases hxy : x = y
    · subst hxy; exact ⟨_, .done⟩
    · obtain ⟨m, t, h1, h2⟩ := hopL_ne hg hy hx h hxy
      have h3 := h2.lt hg
      obtain ⟨L, hL⟩ := ih m h3.2.1 h3.2.2.1 (by omega)
      exact ⟨_, .step hxy h1 hL⟩
theorem Pt.ex {g : Gr} (hg : GV g) {y x : Int} (hy : Nd g y) (hx : Nd g x) (h : 0 ≤ D g y x) : ∃ L, Pt g y x L := pt_ex hg hy _ x hx h (Nat.le_refl _)
theorem Pt.head {g : Gr} {y x : Int} {L : List Int} (h : Pt g y x L) : L[0]? = some x ∧ 0 < L.length := by cases h <;> simp
theorem Pt.last {g : Gr} {y x : Int} {L : List Int} (h : Pt g y x L) : L[L.length - 1]? = some y := by
  induction h with
  | done => rfl
  | step h1 h2 h3 ih =>
    have := h3.head.2
    rw [List.length_cons, Nat.add_sub_cancel]
    rename_i L'
    obtain ⟨n, hn⟩ : ∃ n, L'.length = n + 1 := ⟨L'.length - 1, by omega⟩
    rw [hn] at ih ⊢
    simpa using ih
theorem Pt.hop {g : Gr} (hg : GV g) {y x : Int} {L : List Int} (h : Pt g y x L) : ∀ {i : Nat} {a b : Int}, L[i]? = some a → L[i + 1]? = some b → Hp g y a b := by
  induction h with
  | done => intro i a b _ hb; simp at hb
  | step h1 h2 h3 ih =>
    intro i a b ha hb
    cases i with
    | zero =>
      simp at ha hb
      subst ha
      have h4 := h3.head.1
      rw [h4] at hb
      cases hb
      exact hop_head hg h2
    | succ i => exact ih (by simpa using ha) (by simpa using hb)
theorem Pt.tail {g : Gr} {y x : Int} {L : List Int} (h : Pt g y x L) : ∀ {i : Nat} {a : Int}, L[i]? = some a → Pt g y a (L.drop i) := by
  induction h with
  | done =>
    intro i a ha
    cases i with
    | zero => simp at ha; subst ha; exact .done
    | succ i => simp at ha
  | step h1 h2 h3 ih =>
    intro i a ha
    cases i with
    | zero => simp at ha; subst ha; exact .step h1 h2 h3
    | succ i => exact ih (by simpa using ha)
theorem Pt.len {g : Gr} (hg : GV g) {y : Int} (hy : Nd g y) {x : Int} {L : List Int} (h : Pt g y x L) : (L.length : Int) ≤ g.n := by
  have key : L.length ≤ (List.range g.n.toNat).countP fun z : Nat => tb (D g y (z : Int) ≤ D g y x) := by
    have one : ∀ {v : Int}, Nd g v → (List.range g.n.toNat).countP (fun z : Nat => tb (D g y (z : Int) < D g y v)) < (List.range g.n.toNat).countP fun z : Nat => tb (D g y (z : Int) ≤ D g y v) := by
      intro v hv
      unfold Nd at hv
      refine countP_lt (fun a ha => tb_yes (by have := tb_spec ha; omega)) (z := v.toNat) (by simp; omega) (tb_no ?_) (tb_yes ?_)
      · rw [show ((v.toNat : Nat) : Int) = v from by omega]; omega
      · rw [show ((v.toNat : Nat) : Int) = v from by omega]; omega
    induction h with
    | done => exact Nat.succ_le_of_lt (Nat.lt_of_le_of_lt (Nat.zero_le _) (one hy))
    | step h1 h2 h3 ih =>
      have h4 := (hop_head hg h2).lt hg
      have h5 := one h4.1
      rename_i x' m t L'
      have h6 : (List.range g.n.toNat).countP (fun z : Nat => tb (D g y (z : Int) ≤ D g y m)) ≤ (List.range g.n.toNat).countP (fun z : Nat => tb (D g y (z : Int) < D g y x')) :=
        List.countP_mono_left fun a _ ha => tb_yes (show D g y (a : Int) < D g y x' from by have := tb_spec ha; omega)
      rw [List.length_cons]
      exact Nat.lt_of_le_of_lt (Nat.le_trans ih h6) h5
  have h1 : (List.range g.n.toNat).countP (fun z : Nat => tb (D g y (z : Int) ≤ D g y x)) ≤ g.n.toNat := by
    have := List.countP_le_length (p := fun z : Nat => tb (D g y (z : Int) ≤ D g y x)) (l := List.range g.n.toNat)
    simpa using this
  have := hg.n
  omega
end Go.Proofs.Ytbhkjeicogjfbaa
