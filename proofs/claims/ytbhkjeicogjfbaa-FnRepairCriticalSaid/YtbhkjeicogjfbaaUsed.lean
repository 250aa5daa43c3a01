/- Links that shortest paths use, safe nodes, the graph without a link, in plain Lean. Conditions: the graph is valid. -/
import Derived.Test.YtbhkjeicogjfbaaDist
namespace Go.Proofs.Ytbhkjeicogjfbaa

theorem ed_of {g : Gr} {l : Lk} (hl : l ∈ g.ls) : Ed g l.a l.b l.c := ⟨l, hl, rfl, .inl ⟨rfl, rfl⟩⟩
theorem GV.na {g : Gr} (hg : GV g) {l : Lk} (hl : l ∈ g.ls) : Nd g l.a := (hg.lv hl).1
theorem GV.nb {g : Gr} (hg : GV g) {l : Lk} (hl : l ∈ g.ls) : Nd g l.b := (hg.lv hl).2.1
/-- Nodes that one node reaches reach one another. -/
theorem D_conn {g : Gr} (hg : GV g) {x y z : Int} (hx : Nd g x) (hy : Nd g y) (hz : Nd g z) (h : 0 ≤ D g x y) (h' : 0 ≤ D g x z) : 0 ≤ D g y z := by
  rw [D_symm hg hx hy] at h
  exact (D_tri hg hy hx hz h h').1
theorem D_ends {g : Gr} (hg : GV g) {l : Lk} (hl : l ∈ g.ls) {x : Int} (hx : Nd g x) : 0 ≤ D g x l.a ↔ 0 ≤ D g x l.b :=
  ⟨fun h => (D_edge hg hx (ed_of hl) h).1, fun h => (D_edge hg hx (ed_of hl).symm h).1⟩

/-- Some shortest path from x to y crosses link l. -/
def Us (g : Gr) (l : Lk) (x y : Int) : Prop := 0 ≤ D g x y ∧ 0 ≤ D g x l.a ∧ (D g x l.a + l.c + D g y l.b = D g x y ∨ D g x l.b + l.c + D g y l.a = D g x y)
/-- y is safe from x, with regard to l. -/
def Sf (g : Gr) (l : Lk) (x y : Int) : Prop := 0 ≤ D g x y ∧ ¬ Us g l x y
/-- Link l joins x and y. -/
def Jn (l : Lk) (x y : Int) : Prop := (l.a = x ∧ l.b = y) ∨ (l.a = y ∧ l.b = x)
theorem Jn.symm {l : Lk} {x y : Int} (h : Jn l x y) : Jn l y x := Or.symm h
theorem us_mk {g : Gr} (hg : GV g) {l : Lk} (hl : l ∈ g.ls) {x y : Int} (hx : Nd g x) (hy : Nd g y) (h0 : 0 ≤ D g x y) (h1 : 0 ≤ D g x l.a)
    (h : D g x l.a + l.c + D g y l.b ≤ D g x y ∨ D g x l.b + l.c + D g y l.a ≤ D g x y) : Us g l x y := by
  have ha := hg.na hl
  have hb := hg.nb hl
  have h1b := (D_ends hg hl hx).1 h1
  have hya := D_conn hg hx hy ha h0 h1
  have hyb := D_conn hg hx hy hb h0 h1b
  rw [D_symm hg hy ha] at hya h
  rw [D_symm hg hy hb] at hyb h
  have e1 := D_edge hg hx (ed_of hl) h1
  have e2 := D_edge hg hx (ed_of hl).symm h1b
  have t1 := D_tri hg hx hb hy h1b hyb
  have t2 := D_tri hg hx ha hy h1 hya
  refine ⟨h0, h1, ?_⟩
  rw [D_symm hg hy ha, D_symm hg hy hb]
  omega
theorem Us.symm {g : Gr} (hg : GV g) {l : Lk} (hl : l ∈ g.ls) {x y : Int} (hx : Nd g x) (hy : Nd g y) (h : Us g l x y) : Us g l y x := by
  obtain ⟨h1, h2, h3⟩ := h
  have ha := hg.na hl
  refine us_mk hg hl hy hx (by rw [D_symm hg hy hx]; exact h1) (D_conn hg hx hy ha h1 h2) ?_
  rw [D_symm hg hy hx]
  omega
theorem us_comm {g : Gr} (hg : GV g) {l : Lk} (hl : l ∈ g.ls) {x y : Int} (hx : Nd g x) (hy : Nd g y) : Us g l x y ↔ Us g l y x := ⟨Us.symm hg hl hx hy, Us.symm hg hl hy hx⟩
theorem Us.step {g : Gr} (hg : GV g) {l : Lk} (hl : l ∈ g.ls) {x m y c : Int} (hx : Nd g x) (h : Us g l x m) (e : Ed g m y c) (hd : D g x m + c = D g x y) : Us g l x y := by
  obtain ⟨hm, hy, hc, _⟩ := e.nd hg
  obtain ⟨h1, h2, h3⟩ := h
  have ha := hg.na hl
  have hb := hg.nb hl
  have h2b := (D_ends hg hl hx).1 h2
  have hma := D_conn hg hx hm ha h1 h2
  have hmb := D_conn hg hx hm hb h1 h2b
  rw [D_symm hg hm ha] at hma h3
  rw [D_symm hg hm hb] at hmb h3
  have ea := D_edge hg ha e hma
  have eb := D_edge hg hb e hmb
  refine us_mk hg hl hx hy (by omega) h2 ?_
  rw [D_symm hg hy ha, D_symm hg hy hb]
  omega
theorem us_last {g : Gr} (hg : GV g) {l : Lk} (hl : l ∈ g.ls) {x m y : Int} (hx : Nd g x) (j : Jn l m y) (h0 : 0 ≤ D g x m) (hd : D g x m + l.c = D g x y) : Us g l x y := by
  have ha := hg.na hl
  have hb := hg.nb hl
  have hc := (hg.lv hl).2.2.2.1
  rcases j with ⟨rfl, rfl⟩ | ⟨rfl, rfl⟩
  · refine us_mk hg hl hx hb (by omega) h0 (.inl ?_)
    rw [D_self hg hb]
    omega
  · refine us_mk hg hl hx ha (by omega) ((D_ends hg hl hx).2 h0) (.inr ?_)
    rw [D_self hg ha]
    omega
theorem us_ne {g : Gr} (hg : GV g) {l : Lk} (hl : l ∈ g.ls) {x y : Int} (hx : Nd g x) (hy : Nd g y) (h : Us g l x y) : 0 < D g x y := by
  obtain ⟨h1, h2, h3⟩ := h
  have hc := (hg.lv hl).2.2.2.1
  have h2b := (D_ends hg hl hx).1 h2
  have := D_conn hg hx hy (hg.na hl) h1 h2
  have := D_conn hg hx hy (hg.nb hl) h1 h2b
  omega
theorem sf_self {g : Gr} (hg : GV g) {l : Lk} (hl : l ∈ g.ls) {x : Int} (hx : Nd g x) : Sf g l x x := by
  have h := D_self hg hx
  refine ⟨by omega, fun hu => ?_⟩
  have := us_ne hg hl hx hx hu
  omega

/-! ### The graph without a link -/
def Wo (g : Gr) (k : Nat) : Gr := ⟨g.n, g.ls.eraseIdx k⟩
theorem wo_get {g : Gr} {k i : Nat} : (Wo g k).ls[i]? = if i < k then g.ls[i]? else g.ls[i + 1]? := List.getElem?_eraseIdx
theorem wo_nd {g : Gr} {k : Nat} {x : Int} : Nd (Wo g k) x ↔ Nd g x := Iff.rfl
theorem wo_len {g : Gr} {k : Nat} (hk : k < g.ls.length) : (Wo g k).ls.length + 1 = g.ls.length := by
  show (g.ls.eraseIdx k).length + 1 = _
  rw [List.length_eraseIdx, if_pos hk]
  omega
theorem wo_gv {g : Gr} (hg : GV g) (k : Nat) : GV (Wo g k) := by
  refine ⟨hg.n, Nat.le_trans (List.length_eraseIdx_le _ _) hg.len, fun i l hl => ?_⟩
  rw [wo_get] at hl
  have hm : l ∈ g.ls := by split at hl <;> exact List.mem_of_getElem? hl
  have hv := hg.lv hm
  rintro (h | ⟨p, h0, hp, h⟩)
  · unfold LV Nd at hv
    exact h ⟨hv.1.1, hv.2.2.1, hv.2.1.2, hv.2.2.2⟩
  · rw [wo_get] at hp
    have hlt : p.a < l.a ∨ (p.a = l.a ∧ p.b < l.b) := by
      by_cases h1 : i < k
      · rw [if_pos h1] at hl
        rw [if_pos (by omega)] at hp
        exact hg.asc (by omega) hp hl
      · rw [if_neg h1] at hl
        by_cases h2 : i - 1 < k
        · rw [if_pos h2] at hp
          exact hg.asc (by omega) hp hl
        · rw [if_neg h2] at hp
          exact hg.asc (by omega) hp hl
    omega
theorem wo_mem {g : Gr} {k : Nat} {m : Lk} : m ∈ (Wo g k).ls ↔ ∃ j, j ≠ k ∧ g.ls[j]? = some m := by
  constructor
  · intro h
    obtain ⟨i, hi⟩ := List.mem_iff_getElem?.1 h
    rw [wo_get] at hi
    split at hi
    · exact ⟨i, by omega, hi⟩
    · exact ⟨i + 1, by omega, hi⟩
  · rintro ⟨j, hj, hm⟩
    rcases Nat.lt_or_ge j k with h | h
    · exact List.mem_of_getElem? (i := j) (by rw [wo_get, if_pos h]; exact hm)
    · refine List.mem_of_getElem? (i := j - 1) ?_
      rw [wo_get, if_neg (by omega), show j - 1 + 1 = j from by omega]
      exact hm
theorem wo_ed {g : Gr} (hg : GV g) {k : Nat} {l : Lk} (hl : g.ls[k]? = some l) {x y c : Int} : Ed (Wo g k) x y c ↔ Ed g x y c ∧ ¬ Jn l x y := by
  have hlm := List.mem_of_getElem? hl
  have hv := (hg.lv hlm).2.2.1
  constructor
  · rintro ⟨m, hm, h1, h2⟩
    obtain ⟨j, hj, hm⟩ := wo_mem.1 hm
    have hmm := List.mem_of_getElem? hm
    have hv' := (hg.lv hmm).2.2.1
    refine ⟨⟨m, hmm, h1, h2⟩, fun h3 => ?_⟩
    unfold Jn at h3
    exact hj (hg.place hm hl (by omega) (by omega))
  · rintro ⟨⟨m, hm, h1, h2⟩, hn⟩
    obtain ⟨j, hj⟩ := List.mem_iff_getElem?.1 hm
    refine ⟨m, wo_mem.2 ⟨j, fun he => ?_, hj⟩, h1, h2⟩
    subst he
    rw [hl] at hj
    cases hj
    exact hn h2
theorem wo_wk {g : Gr} {k : Nat} {x y v : Int} {j : Nat} (h : Wk (Wo g k) x y v j) : Wk g x y v j := by
  induction h with
  | nil => exact Wk.nil
  | snoc h1 e ih =>
    obtain ⟨m, hm, h2, h3⟩ := e
    obtain ⟨i, _, hi⟩ := wo_mem.1 hm
    exact ih.snoc ⟨m, List.mem_of_getElem? hi, h2, h3⟩
theorem D_wo {g : Gr} (hg : GV g) {k : Nat} {x y : Int} (hx : Nd g x) (hy : Nd g y) (h : 0 ≤ D (Wo g k) x y) : 0 ≤ D g x y ∧ D g x y ≤ D (Wo g k) x y := by
  obtain ⟨⟨j, hj⟩, _⟩ := D_mn (wo_gv hg k) hx hy h
  exact D_walk hg hx (wo_wk hj)
theorem sf_D {g : Gr} (hg : GV g) {k : Nat} {l : Lk} (hl : g.ls[k]? = some l) {x : Int} (hx : Nd g x) : ∀ (n : Nat) (y : Int), Nd g y → Sf g l x y → (D g x y).toNat ≤ n → D (Wo g k) x y = D g x y := by
  have hlm := List.mem_of_getElem? hl
  have hw := wo_gv hg k
  intro n
  induction n with
  | zero =>
    intro y hy h hn
    have h0 : D g x y = 0 := by have := h.1; omega
    have := D_zero hg hx hy h0
    subst this
    rw [h0]
    exact D_self hw hx
  | succ n ih =>
    intro y hy h hn
    by_cases hxy : y = x
    · subst hxy
      rw [D_self hg hx]
      exact D_self hw hx
    · obtain ⟨m, c, e, h1, h2⟩ := D_pred hg hx hy h.1 hxy
      obtain ⟨hm, _, hc, _⟩ := e.nd hg
      have hj : ¬ Jn l m y := fun j => by
        have e' : Ed g m y l.c := ⟨l, hlm, rfl, j⟩
        have := e.uniq hg e'
        subst this
        exact h.2 (us_last hg hlm hx j h1 h2)
      have hs : Sf g l x m := ⟨h1, fun hu => h.2 (hu.step hg hlm hx e h2)⟩
      have h3 := ih m hm hs (by omega)
      have h4 := D_edge hw hx ((wo_ed hg hl).2 ⟨e, hj⟩) (by rw [h3]; exact h1)
      have h5 := D_wo hg hx hy h4.1
      omega
theorem safe_D {g : Gr} (hg : GV g) {k : Nat} {l : Lk} (hl : g.ls[k]? = some l) {x y : Int} (hx : Nd g x) (hy : Nd g y) (h : Sf g l x y) : D (Wo g k) x y = D g x y := sf_D hg hl hx _ y hy h (Nat.le_refl _)

/-! ### Selections -/
/-- The numbers below k for which p holds. -/
noncomputable def selTo (p : Int → Prop) (k : Nat) : List Int := ((List.range k).map fun i : Nat => (i : Int)).filter fun i => tb (p i)
theorem selTo_zero (p : Int → Prop) : selTo p 0 = [] := rfl
theorem selTo_yes {p : Int → Prop} {k : Nat} (h : p k) : selTo p (k + 1) = selTo p k ++ [(k : Int)] := by
  unfold selTo
  rw [List.range_succ, List.map_append, List.filter_append, List.map_cons, List.map_nil, List.filter_cons, if_pos (tb_yes h), List.filter_nil]
theorem selTo_no {p : Int → Prop} {k : Nat} (h : ¬ p k) : selTo p (k + 1) = selTo p k := by
  unfold selTo
  rw [List.range_succ, List.map_append, List.filter_append, List.map_cons, List.map_nil, List.filter_cons, if_neg (by rw [tb_no h]; decide), List.filter_nil, List.append_nil]
theorem selTo_len (p : Int → Prop) (k : Nat) : (selTo p k).length ≤ k := by
  unfold selTo
  exact Nat.le_trans (List.length_filter_le _ _) (by simp)
theorem selTo_mem {p : Int → Prop} {k : Nat} {x : Int} : x ∈ selTo p k ↔ (0 ≤ x ∧ x < k) ∧ p x := by
  unfold selTo
  rw [List.mem_filter, List.mem_map]
  constructor
  · rintro ⟨⟨i, hi, rfl⟩, h⟩
    rw [List.mem_range] at hi
    exact ⟨by omega, tb_spec h⟩
  · rintro ⟨h1, h2⟩
    exact ⟨⟨x.toNat, by rw [List.mem_range]; omega, by omega⟩, tb_yes h2⟩
theorem selTo_asc (p : Int → Prop) (k : Nat) : (selTo p k).Pairwise (· < ·) := by
  unfold selTo
  refine List.Pairwise.filter _ ?_
  rw [List.pairwise_map]
  refine List.Pairwise.imp ?_ (List.pairwise_lt_range (n := k))
  intro a b h
  omega
theorem selTo_congr {p q : Int → Prop} {k : Nat} (h : ∀ x, 0 ≤ x ∧ x < k → (p x ↔ q x)) : selTo p k = selTo q k := by
  unfold selTo
  refine List.filter_congr fun x hx => ?_
  rw [List.mem_map] at hx
  obtain ⟨i, hi, rfl⟩ := hx
  rw [List.mem_range] at hi
  exact tb_iff (h _ (by omega))
/-- r holds where just one of p and q does. -/
theorem selTo_two {p q r : Int → Prop} : ∀ {k : Nat}, (∀ x, 0 ≤ x ∧ x < k → (r x ↔ p x ∨ q x) ∧ ¬ (p x ∧ q x)) → (selTo p k).length + (selTo q k).length = (selTo r k).length
  | 0, _ => rfl
  | k + 1, h => by
    have ih := selTo_two (p := p) (q := q) (r := r) (k := k) fun x hx => h x (by omega)
    obtain ⟨h1, h2⟩ := h k (by omega)
    by_cases hp : p k
    · have hq : ¬ q k := fun hq => h2 ⟨hp, hq⟩
      rw [selTo_yes hp, selTo_no hq, selTo_yes (h1.2 (.inl hp))]
      simp
      omega
    · rw [selTo_no hp]
      by_cases hq : q k
      · rw [selTo_yes hq, selTo_yes (h1.2 (.inr hq))]
        simp
        omega
      · rw [selTo_no hq, selTo_no fun hr => (h1.1 hr).elim hp hq]
        exact ih
end Go.Proofs.Ytbhkjeicogjfbaa
