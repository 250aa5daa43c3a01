/- The right order of updates, mixed tables, loops and arrivals in plain Lean. Conditions: the graph is valid. -/
import Derived.Test.YtbhkjeicogjfbaaHops
namespace Go.Proofs.Ytbhkjeicogjfbaa

/-- Two ordered lists of the same numbers are one. -/
theorem pw_ext {R : Int → Int → Prop} (irr : ∀ a, ¬ R a a) (asy : ∀ a b, R a b → ¬ R b a) : ∀ {l m : List Int}, l.Pairwise R → m.Pairwise R → (∀ x, x ∈ l ↔ x ∈ m) → l = m
  | [], [], _, _, _ => rfl
  | [], y :: m, _, _, h => absurd ((h y).2 (by simp)) (by simp)
  | x :: l, [], _, _, h => absurd ((h x).1 (by simp)) (by simp)
  | x :: l, y :: m, hl, hm, h => by
    obtain ⟨hl1, hl2⟩ := List.pairwise_cons.1 hl
    obtain ⟨hm1, hm2⟩ := List.pairwise_cons.1 hm
    have hxy : x = y := by
      rcases List.mem_cons.1 ((h x).1 (by simp)) with h1 | h1
      · exact h1
      · rcases List.mem_cons.1 ((h y).2 (by simp)) with h2 | h2
        · exact h2.symm
        · exact absurd (hl1 y h2) (asy _ _ (hm1 x h1))
    subst hxy
    rw [pw_ext irr asy hl2 hm2 fun z => ?_]
    constructor
    · intro hz
      rcases List.mem_cons.1 ((h z).1 (by simp [hz])) with h1 | h1
      · subst h1; exact absurd (hl1 z hz) (irr z)
      · exact h1
    · intro hz
      rcases List.mem_cons.1 ((h z).2 (by simp [hz])) with h1 | h1
      · subst h1; exact absurd (hm1 z hz) (irr z)
      · exact h1
/-- a changes ahead of b. -/
def Bf (g : Gr) (y a b : Int) : Prop := D g y b < D g y a ∨ (D g y a = D g y b ∧ a < b)
structure OrdL (g : Gr) (l : Lk) (y : Int) (L : List Int) : Prop where
  pw : L.Pairwise (Bf g y)
  mem : ∀ x, x ∈ L ↔ Nd g x ∧ Us g l x y
theorem OrdL.uniq {g : Gr} {l : Lk} {y : Int} {L M : List Int} (h : OrdL g l y L) (h' : OrdL g l y M) : L = M :=
  pw_ext (R := Bf g y) (fun a h => by unfold Bf at h; omega) (fun a b h h' => by unfold Bf at h h'; omega) h.pw h'.pw fun x => (h.mem x).trans (h'.mem x).symm
theorem nodup_len {L : List Int} {k : Nat} (hn : L.Nodup) (hr : ∀ x ∈ L, 0 ≤ x ∧ x < k) : L.length ≤ k := by
  induction k generalizing L with
  | zero =>
    cases L with
    | nil => simp
    | cons x L => have := hr x (by simp); omega
  | succ k ih =>
    have h1 : (L.erase (k : Int)).length ≤ k := ih (hn.erase _) fun x hx => by
      have h2 := (List.Nodup.mem_erase_iff hn).1 hx
      have := hr x h2.2
      omega
    have := List.length_erase_le (a := (k : Int)) (l := L)
    have h3 : L.length ≤ (L.erase (k : Int)).length + 1 := by
      rw [List.length_erase]
      split <;> omega
    omega
theorem OrdL.len {g : Gr} (hg : GV g) {l : Lk} {y : Int} {L : List Int} (h : OrdL g l y L) : (L.length : Int) ≤ g.n := by
  have hn := hg.n
  have : L.length ≤ g.n.toNat := nodup_len (h.pw.imp fun hab he => by subst he; unfold Bf at hab; omega) fun x hx => by
    have := ((h.mem x).1 hx).1
    unfold Nd at this
    omega
  omega
/-- Of an order's part up to k: who is farther than a member is a member. -/
theorem OrdL.pre {g : Gr} {l : Lk} {y : Int} {L : List Int} (h : OrdL g l y L) {k : Nat} {a b : Int} (ha : a ∈ L.take k) (hb : Nd g b ∧ Us g l b y) (hd : D g y a < D g y b) : b ∈ L.take k := by
  have hbL := (h.mem b).2 hb
  rw [← List.take_append_drop k L] at hbL
  rcases List.mem_append.1 hbL with h1 | h1
  · exact h1
  · have hp := h.pw
    rw [← List.take_append_drop k L] at hp
    have := (List.pairwise_append.1 hp).2.2 a ha b h1
    unfold Bf at this
    omega

/-- The next hops of x where the nodes of ch have changed their tables. -/
noncomputable def mixL (g : Gr) (l : Lk) (k : Nat) (y : Int) (ch : List Int) (x : Int) : List Int :=
  if tb (x ∈ ch) = true then hopL (Wo g k) y x else (hopL g y x).filter fun m => tb (¬ Jn l x m)
section
variable {g : Gr} {l : Lk} {k : Nat} {y x m : Int} {ch : List Int}
theorem mix_new (h : x ∈ ch) : mixL g l k y ch x = hopL (Wo g k) y x := by unfold mixL; rw [if_pos (tb_yes h)]
theorem mix_old (h : x ∉ ch) : mixL g l k y ch x = (hopL g y x).filter fun m => tb (¬ Jn l x m) := by unfold mixL; rw [if_neg (by rw [tb_no h]; decide)]
theorem mix_mem (hg : GV g) : m ∈ mixL g l k y ch x ↔ (x ∈ ch ∧ Hp (Wo g k) y x m) ∨ (x ∉ ch ∧ Hp g y x m ∧ ¬ Jn l x m) := by
  by_cases h : x ∈ ch
  · rw [mix_new h, hopL_mem (wo_gv hg k)]
    exact ⟨fun h1 => .inl ⟨h, h1⟩, fun h1 => h1.elim (fun h2 => h2.2) fun h2 => absurd h h2.1⟩
  · rw [mix_old h, List.mem_filter, hopL_mem hg]
    exact ⟨fun h1 => .inr ⟨h, h1.1, tb_spec h1.2⟩, fun h1 => h1.elim (fun h2 => absurd h2.1 h) fun h2 => ⟨h2.2.1, tb_yes h2.2.2⟩⟩
theorem mix_nd (hg : GV g) (h : m ∈ mixL g l k y ch x) : Nd g x ∧ Nd g m := by
  rcases (mix_mem hg).1 h with ⟨_, h1⟩ | ⟨_, h1, _⟩
  · have := h1.lt (wo_gv hg k); exact ⟨this.1, this.2.1⟩
  · have := h1.lt hg; exact ⟨this.1, this.2.1⟩
theorem mix_self (hg : GV g) (hy : Nd g y) : mixL g l k y ch y = [] := by
  apply List.eq_nil_iff_forall_not_mem.2
  intro m hm
  rcases (mix_mem hg).1 hm with ⟨_, h1⟩ | ⟨_, h1, _⟩
  · exact hp_self (wo_gv hg k) (show Nd (Wo g k) y from hy) h1
  · exact hp_self hg hy h1
/-- Hops of a node that does not use the link are the same without it. -/
theorem hp_unused (hg : GV g) (hl : g.ls[k]? = some l) (hy : Nd g y) (hx : Nd g x) (hu : ¬ Us g l x y) : Hp (Wo g k) y x m ↔ Hp g y x m := by
  have hlm := List.mem_of_getElem? hl
  have hw := wo_gv hg k
  have hu' : ¬ Us g l y x := fun h => hu (h.symm hg hlm hy hx)
  by_cases h0 : 0 ≤ D g y x
  · have hD := safe_D hg hl hy hx ⟨h0, hu'⟩
    constructor
    · rintro ⟨c, e, h1, h2⟩
      obtain ⟨e1, hj⟩ := (wo_ed hg hl).1 e
      obtain ⟨_, hm, hc, _⟩ := e1.nd hg
      have h3 := D_wo hg hy hm h1
      have h4 := D_edge hg hy e1.symm h3.1
      exact ⟨c, e1, h3.1, by omega⟩
    · rintro ⟨c, e, h1, h2⟩
      obtain ⟨_, hm, hc, _⟩ := e.nd hg
      have hj : ¬ Jn l x m := fun j => by
        have e' : Ed g x m l.c := ⟨l, hlm, rfl, j⟩
        have := e.uniq hg e'
        subst this
        exact hu' (us_last hg hlm hy j.symm h1 h2)
      have hsm : Sf g l y m := ⟨h1, fun h => hu' (h.step hg hlm hy e.symm h2)⟩
      have hDm := safe_D hg hl hy hm hsm
      exact ⟨c, (wo_ed hg hl).2 ⟨e, hj⟩, by omega, by omega⟩
  · constructor
    · intro h
      have h1 := h.lt hw
      have h2 := D_wo hg hy hx (show 0 ≤ D (Wo g k) y x by omega)
      omega
    · intro h
      have := h.lt hg
      omega
theorem hopL_unused (hg : GV g) (hl : g.ls[k]? = some l) (hy : Nd g y) (hx : Nd g x) (hu : ¬ Us g l x y) : hopL (Wo g k) y x = hopL g y x := by
  unfold hopL
  exact selTo_congr fun m _ => hp_unused hg hl hy hx hu
theorem hp_nojoin (hg : GV g) (hl : g.ls[k]? = some l) (hy : Nd g y) (hx : Nd g x) (hu : ¬ Us g l x y) (h : Hp g y x m) : ¬ Jn l x m := by
  have := (hp_unused hg hl hy hx hu).2 h
  obtain ⟨c, e, _⟩ := this
  exact ((wo_ed hg hl).1 e).2
theorem mix_unused (hg : GV g) (hl : g.ls[k]? = some l) (hy : Nd g y) (hx : Nd g x) (hu : ¬ Us g l x y) : mixL g l k y ch x = hopL g y x := by
  by_cases h : x ∈ ch
  · rw [mix_new h, hopL_unused hg hl hy hx hu]
  · rw [mix_old h, List.filter_eq_self.2]
    intro m hm
    exact tb_yes (hp_nojoin hg hl hy hx hu ((hopL_mem hg).1 hm))
/-- The next hops of a node that does not use the link do not use it. -/
theorem hp_unused_next (hg : GV g) (hlm : l ∈ g.ls) (hy : Nd g y) (hx : Nd g x) (hu : ¬ Us g l x y) (h : Hp g y x m) : ¬ Us g l m y := by
  intro h1
  obtain ⟨c, e, h2, h3⟩ := h
  obtain ⟨_, hm, _⟩ := e.nd hg
  exact hu (((h1.symm hg hlm hm hy).step hg hlm hy e.symm h3).symm hg hlm hy hx)

/-! ### Loops -/
/-- From x a packet can be forwarded j times. -/
def Stp (R : Int → List Int) : Nat → Int → Prop
  | 0, _ => True
  | j + 1, x => ∃ m, m ∈ R x ∧ Stp R j m
theorem Stp.less {R : Int → List Int} {j : Nat} {x : Int} (h : Stp R (j + 1) x) : Stp R j x := by
  induction j generalizing x with
  | zero => trivial
  | succ j ih =>
    obtain ⟨m, h1, h2⟩ := h
    exact ⟨m, h1, ih h2⟩
theorem Stp.le {R : Int → List Int} {i j : Nat} {x : Int} (h : Stp R j x) (hij : i ≤ j) : Stp R i x := by
  obtain ⟨d, rfl⟩ : ∃ d, j = i + d := ⟨j - i, by omega⟩
  clear hij
  induction d with
  | zero => exact h
  | succ d ih => exact ih h.less
/-- No node goes on longer than there are nodes, where each hop goes down in some order. -/
theorem stp_rank {R : Int → List Int} {N : Nat} {Lt : Int → Int → Prop} (irr : ∀ a, ¬ Lt a a) (tr : ∀ a b c, Lt a b → Lt b c → Lt a c) (hR : ∀ x m : Int, (0 ≤ x ∧ x < N) → m ∈ R x → (0 ≤ m ∧ m < N) ∧ Lt m x) :
    ∀ {j : Nat} {x : Int}, (0 ≤ x ∧ x < N) → Stp R j x → j ≤ (List.range N).countP fun z : Nat => tb (Lt (z : Int) x)
  | 0, x, _, _ => Nat.zero_le _
  | j + 1, x, hx, ⟨m, h1, h2⟩ => by
    obtain ⟨hm, hlt⟩ := hR x m hx h1
    have h3 := stp_rank irr tr hR hm h2
    have h4 : (List.range N).countP (fun z : Nat => tb (Lt z m)) < (List.range N).countP fun z : Nat => tb (Lt z x) := by
      refine countP_lt (fun a ha => tb_yes (tr _ _ _ (tb_spec ha) hlt)) (z := m.toNat) (by simp; omega) (tb_no ?_) (tb_yes ?_)
      · rw [show ((m.toNat : Nat) : Int) = m from by omega]; exact irr m
      · rw [show ((m.toNat : Nat) : Int) = m from by omega]; exact hlt
    omega
theorem stp_none {R : Int → List Int} {N : Nat} {Lt : Int → Int → Prop} (irr : ∀ a, ¬ Lt a a) (tr : ∀ a b c, Lt a b → Lt b c → Lt a c) (hR : ∀ x m : Int, (0 ≤ x ∧ x < N) → m ∈ R x → (0 ≤ m ∧ m < N) ∧ Lt m x)
    {x : Int} (hx : 0 ≤ x ∧ x < N) : ¬ Stp R N x := by
  intro h
  have h1 := stp_rank irr tr hR hx h
  have h2 : (List.range N).countP (fun z : Nat => tb (Lt z x)) < (List.range N).countP fun _ : Nat => true :=
    countP_lt (fun _ _ => rfl) (z := x.toNat) (by simp; omega) (tb_no (by rw [show ((x.toNat : Nat) : Int) = x from by omega]; exact irr x)) rfl
  simp at h2
  omega
/-- Sets of nodes that shrink stand still in as many steps as there are nodes. -/
theorem shrink {N : Nat} (S : Nat → Int → Prop) (h1 : ∀ j x, S (j + 1) x → S j x) (h2 : ∀ j, (∀ x : Int, 0 ≤ x ∧ x < N → S j x → S (j + 1) x) → ∀ x : Int, 0 ≤ x ∧ x < N → S (j + 1) x → S (j + 2) x) : ∀ x : Int, 0 ≤ x ∧ x < N → S N x → S (N + 1) x := by
  have key : ∀ j, (∀ x : Int, 0 ≤ x ∧ x < N → S j x → S (j + 1) x) ∨ (List.range N).countP (fun z : Nat => tb (S j z)) + j ≤ N := by
    intro j
    induction j with
    | zero =>
      right
      have := List.countP_le_length (p := fun z : Nat => tb (S 0 z)) (l := List.range N)
      simpa using this
    | succ j ih =>
      rcases ih with ih | ih
      · exact .inl (h2 j ih)
      · by_cases he : ∀ x : Int, 0 ≤ x ∧ x < N → S j x → S (j + 1) x
        · exact .inl (h2 j he)
        · right
          have he' : ∃ x : Int, (0 ≤ x ∧ x < N) ∧ S j x ∧ ¬ S (j + 1) x := by
            apply Classical.byContradiction
            intro hn
            exact he fun x hx hs => Classical.byContradiction fun hns => hn ⟨x, hx, hs, hns⟩
          obtain ⟨x, hx, hs, hns⟩ := he'
          have : (List.range N).countP (fun z : Nat => tb (S (j + 1) z)) < (List.range N).countP fun z : Nat => tb (S j z) := by
            refine countP_lt (fun a ha => tb_yes (h1 _ _ (tb_spec ha))) (z := x.toNat) (by simp; omega) (tb_no ?_) (tb_yes ?_)
            · rw [show ((x.toNat : Nat) : Int) = x from by omega]; exact hns
            · rw [show ((x.toNat : Nat) : Int) = x from by omega]; exact hs
          omega
  intro x hx hs
  rcases key N with h | h
  · exact h x hx hs
  · have h0 : (List.range N).countP (fun z : Nat => tb (S N z)) = 0 := by omega
    rw [List.countP_eq_zero] at h0
    exact absurd (tb_yes (show S N ((x.toNat : Nat) : Int) by rw [show ((x.toNat : Nat) : Int) = x from by omega]; exact hs)) (h0 x.toNat (by simp; omega))
theorem stp_more {R : Int → List Int} {N : Nat} (hR : ∀ x m : Int, m ∈ R x → 0 ≤ m ∧ m < N) {x : Int} (hx : 0 ≤ x ∧ x < N) : Stp R N x ↔ Stp R (N + 1) x := by
  refine ⟨shrink (Stp R) (fun j x h => h.less) (fun j hj x hx h => ?_) x hx, fun h => h.less⟩
  obtain ⟨m, h3, h4⟩ := h
  exact ⟨m, h3, hj m (hR x m h3) h4⟩
theorem stp_all {R : Int → List Int} {N : Nat} (hR : ∀ x m : Int, m ∈ R x → 0 ≤ m ∧ m < N) {x : Int} (hx : 0 ≤ x ∧ x < N) (h : Stp R N x) : ∀ j, Stp R j x := by
  have up : ∀ d x, 0 ≤ x ∧ x < (N : Int) → Stp R N x → Stp R (N + d) x := by
    intro d
    induction d with
    | zero => intro x _ h; exact h
    | succ d ih =>
      intro x hx h
      obtain ⟨m, h1, h2⟩ := (stp_more hR hx).1 h
      exact ⟨m, h1, ih m (hR x m h1) h2⟩
  intro j
  exact (up j x hx h).le (by omega)

/-! ### Arrivals -/
/-- All packets from x arrive at y. -/
inductive Arr (R : Int → List Int) (y : Int) : Int → Prop
  | here : Arr R y y
  | on {x : Int} : R x ≠ [] → (∀ m, m ∈ R x → Arr R y m) → Arr R y x
theorem Arr.ends {R : Int → List Int} {y x : Int} (hy : R y = []) (h : Arr R y x) : ∃ j, ¬ Stp R j x := by
  induction h with
  | here =>
    refine ⟨1, ?_⟩
    rintro ⟨m, h, _⟩
    rw [hy] at h
    cases h
  | on h1 h2 ih =>
    rename_i x
    have : ∀ L : List Int, (∀ m, m ∈ L → ∃ j, ¬ Stp R j m) → ∃ j, ∀ m, m ∈ L → ¬ Stp R j m := by
      intro L
      induction L with
      | nil => intro _; exact ⟨0, fun m hm => by cases hm⟩
      | cons a L ihL =>
        intro h
        obtain ⟨j1, hj1⟩ := h a (by simp)
        obtain ⟨j2, hj2⟩ := ihL fun m hm => h m (by simp [hm])
        refine ⟨j1 + j2, fun m hm => ?_⟩
        rcases List.mem_cons.1 hm with rfl | hm
        · exact fun h => hj1 (h.le (by omega))
        · exact fun h => hj2 m hm (h.le (by omega))
    obtain ⟨j, hj⟩ := this (R x) ih
    refine ⟨j + 1, ?_⟩
    rintro ⟨m, h3, h4⟩
    exact hj m h3 h4
/-- Fewer hops, but some, harm nobody. -/
theorem Arr.mono {R R' : Int → List Int} {y x : Int} (h : Arr R y x) (hR : ∀ z, Arr R y z → z ≠ y → R z ≠ [] → R' z ≠ [] ∧ ∀ m, m ∈ R' z → m ∈ R z) : Arr R' y x := by
  induction h with
  | here => exact .here
  | on h1 h2 ih =>
    rename_i x
    by_cases hx : x = y
    · subst hx; exact .here
    · obtain ⟨h3, h4⟩ := hR x (.on h1 h2) hx h1
      exact .on h3 fun m hm => ih m (h4 m hm)

/-! ### The laws -/
/-- In the right order there is never a loop. -/
theorem no_loop (hg : GV g) (hl : g.ls[k]? = some l) (hy : Nd g y) {L : List Int} (hL : OrdL g l y L) (j : Nat) (hx : Nd g x) : ¬ Stp (mixL g l k y (L.take j)) g.n.toNat x := by
  have hlm := List.mem_of_getElem? hl
  have hw := wo_gv hg k
  have hn := hg.n
  -- class and distance
  let cl : Int → Int := fun z => if tb (z ∈ L.take j) = true then 2 else if tb (Us g l z y) = true then 1 else 0
  let di : Int → Int := fun z => if tb (z ∈ L.take j) = true then D (Wo g k) y z else D g y z
  have c2 : ∀ z, z ∈ L.take j → cl z = 2 ∧ di z = D (Wo g k) y z := fun z hz => ⟨if_pos (tb_yes hz), if_pos (tb_yes hz)⟩
  have c1 : ∀ z, z ∉ L.take j → Us g l z y → cl z = 1 ∧ di z = D g y z := fun z hz hu => by
    have h1 : ¬ tb (z ∈ L.take j) = true := by rw [tb_no hz]; decide
    exact ⟨(if_neg h1).trans (if_pos (tb_yes hu)), if_neg h1⟩
  have c0 : ∀ z, z ∉ L.take j → ¬ Us g l z y → cl z = 0 ∧ di z = D g y z := fun z hz hu => by
    have h1 : ¬ tb (z ∈ L.take j) = true := by rw [tb_no hz]; decide
    have h2 : ¬ tb (Us g l z y) = true := by rw [tb_no hu]; decide
    exact ⟨(if_neg h1).trans (if_neg h2), if_neg h1⟩
  have hu : ∀ z, z ∈ L.take j → Us g l z y := fun z hz => ((hL.mem z).1 (List.mem_of_mem_take hz)).2
  have hc : ∀ z, cl z ≤ 2 := fun z => by
    by_cases h1 : z ∈ L.take j
    · rw [(c2 z h1).1]; omega
    · by_cases h2 : Us g l z y
      · rw [(c1 z h1 h2).1]; omega
      · rw [(c0 z h1 h2).1]; omega
  refine stp_none (Lt := fun a b => cl a < cl b ∨ (cl a = cl b ∧ di a < di b)) (fun a h => by omega) (fun a b c h h' => by omega) (fun z m hz hm => ?_) (show 0 ≤ x ∧ x < (g.n.toNat : Int) by unfold Nd at hx; omega)
  have hnm := (mix_nd hg hm)
  refine ⟨by have := hnm.2; unfold Nd at this; omega, ?_⟩
  rcases (mix_mem hg).1 hm with ⟨h1, h2⟩ | ⟨h1, h2, h3⟩
  · have h4 := h2.lt hw
    have e1 := c2 z h1
    by_cases hmc : m ∈ L.take j
    · have e2 := c2 m hmc
      omega
    · by_cases hmu : Us g l m y
      · have e2 := c1 m hmc hmu; omega
      · have e2 := c0 m hmc hmu; omega
  · have h4 := h2.lt hg
    by_cases hzu : Us g l z y
    · have e1 := c1 z h1 hzu
      have hmc : m ∉ L.take j := fun hmc => h1 (hL.pre hmc ⟨hnm.1, hzu⟩ h4.2.2.2)
      by_cases hmu : Us g l m y
      · have e2 := c1 m hmc hmu; omega
      · have e2 := c0 m hmc hmu; omega
    · have e1 := c0 z h1 hzu
      have hmu := hp_unused_next hg hlm hy hnm.1 hzu h2
      have hmc : m ∉ L.take j := fun hmc => hmu (hu m hmc)
      have e2 := c0 m hmc hmu
      omega
/-- Nodes that do not use the link arrive whatever has changed. -/
theorem arr_unused (hg : GV g) (hl : g.ls[k]? = some l) (hy : Nd g y) : ∀ (n : Nat) (x : Int), Nd g x → 0 ≤ D g y x → ¬ Us g l x y → (D g y x).toNat ≤ n → Arr (mixL g l k y ch) y x := by
  have hlm := List.mem_of_getElem? hl
  intro n
  induction n with
  | zero =>
    intro x hx h0 hu hn
    have := D_zero hg hy hx (by omega)
    subst this
    exact .here
  | succ n ih =>
    intro x hx h0 hu hn
    by_cases hxy : x = y
    · subst hxy; exact .here
    · obtain ⟨m, t, h1, _⟩ := hopL_ne hg hy hx h0 hxy
      have hm := mix_unused (ch := ch) hg hl hy hx hu
      refine .on (by rw [hm, h1]; simp) fun m hmm => ?_
      rw [hm, hopL_mem hg] at hmm
      have h2 := hmm.lt hg
      exact ih m h2.2.1 h2.2.2.1 (hp_unused_next hg hlm hy hx hu hmm) (by omega)
/-- When all have changed, everything that is reached without the link arrives. -/
theorem mix_all (hg : GV g) (hl : g.ls[k]? = some l) (hy : Nd g y) {L : List Int} (hL : OrdL g l y L) (hx : Nd g x) : mixL g l k y L x = hopL (Wo g k) y x := by
  by_cases h : x ∈ L
  · exact mix_new h
  · have hu : ¬ Us g l x y := fun hu => h ((hL.mem x).2 ⟨hx, hu⟩)
    rw [mix_unused hg hl hy hx hu, hopL_unused hg hl hy hx hu]
theorem arr_all (hg : GV g) (hl : g.ls[k]? = some l) (hy : Nd g y) {L : List Int} (hL : OrdL g l y L) (hx : Nd g x) : Arr (mixL g l k y L) y x ↔ 0 ≤ D (Wo g k) y x := by
  have hw := wo_gv hg k
  have hyw : Nd (Wo g k) y := hy
  constructor
  · intro h
    cases h with
    | here => rw [D_self hw hyw]; exact Int.le_refl _
    | on h1 h2 =>
      rw [mix_all hg hl hy hL hx] at h1
      obtain ⟨m, t, hm⟩ : ∃ m t, hopL (Wo g k) y x = m :: t := by
        cases hh : hopL (Wo g k) y x with
        | nil => exact absurd hh h1
        | cons m t => exact ⟨m, t, rfl⟩
      have := ((hopL_mem hw).1 (show m ∈ hopL (Wo g k) y x by rw [hm]; simp)).lt hw
      omega
  · have key : ∀ (n : Nat) (x : Int), Nd g x → 0 ≤ D (Wo g k) y x → (D (Wo g k) y x).toNat ≤ n → Arr (mixL g l k y L) y x := by
      intro n
      induction n with
      | zero =>
        intro x hx h0 hn
        have := D_zero hw hyw (show Nd (Wo g k) x from hx) (by omega)
        subst this
        exact .here
      | succ n ih =>
        intro x hx h0 hn
        by_cases hxy : x = y
        · subst hxy; exact .here
        · obtain ⟨m, t, h1, _⟩ := hopL_ne hw hyw (show Nd (Wo g k) x from hx) h0 hxy
          have hm := mix_all hg hl hy hL hx
          refine .on (by rw [hm, h1]; simp) fun m hmm => ?_
          rw [hm, hopL_mem hw] at hmm
          have h2 := hmm.lt hw
          exact ih m h2.2.1 h2.2.2.1 (by omega)
    intro h
    exact key _ x hx h (Nat.le_refl _)
/-- A node that has not changed, but whose packets all arrive, is as near without the link. -/
theorem arr_same (hg : GV g) (hl : g.ls[k]? = some l) (hy : Nd g y) {L : List Int} (hL : OrdL g l y L) {j : Nat} (h : Arr (mixL g l k y (L.take j)) y x) (hx : Nd g x) (hc : x ∉ L.take j) : D (Wo g k) y x = D g y x ∧ 0 ≤ D g y x := by
  have hlm := List.mem_of_getElem? hl
  have hw := wo_gv hg k
  induction h with
  | here => rw [D_self hg hy]; exact ⟨D_self hw (show Nd (Wo g k) y from hy), Int.le_refl _⟩
  | on h1 h2 ih =>
    rename_i x
    obtain ⟨m, hm⟩ : ∃ m, m ∈ mixL g l k y (L.take j) x := by
      cases hh : mixL g l k y (L.take j) x with
      | nil => exact absurd hh h1
      | cons m t => exact ⟨m, by simp⟩
    rcases (mix_mem hg).1 hm with ⟨h3, _⟩ | ⟨_, h3, h4⟩
    · exact absurd h3 hc
    · have h5 := h3.lt hg
      by_cases hu : Us g l x y
      · have hmc : m ∉ L.take j := fun hmc => hc (hL.pre hmc ⟨hx, hu⟩ h5.2.2.2)
        obtain ⟨h6, h7⟩ := ih m hm h5.2.1 hmc
        obtain ⟨c, e, h8, h9⟩ := h3
        have e' := (wo_ed hg hl).2 ⟨e, h4⟩
        have h10 := D_edge hw (show Nd (Wo g k) y from hy) e'.symm (by omega)
        have h11 := D_wo hg hy hx h10.1
        omega
      · have hu' : ¬ Us g l y x := fun h => hu (h.symm hg hlm hy hx)
        exact ⟨safe_D hg hl hy hx ⟨by omega, hu'⟩, by omega⟩
theorem arr_more (hg : GV g) (hl : g.ls[k]? = some l) (hy : Nd g y) {L : List Int} (hL : OrdL g l y L) {j : Nat} (h : Arr (mixL g l k y (L.take j)) y x) : Arr (mixL g l k y (L.take (j + 1))) y x := by
  have hlm := List.mem_of_getElem? hl
  have hw := wo_gv hg k
  refine h.mono fun z hz hzy hne => ?_
  obtain ⟨m, hm⟩ : ∃ m, m ∈ mixL g l k y (L.take j) z := by
    cases hh : mixL g l k y (L.take j) z with
    | nil => exact absurd hh hne
    | cons m t => exact ⟨m, by simp⟩
  have hzn := (mix_nd hg hm).1
  by_cases h1 : z ∈ L.take j
  · have h2 : z ∈ L.take (j + 1) := List.take_subset_take_left _ (by omega) h1
    rw [mix_new h2, ← mix_new (g := g) (l := l) (k := k) (y := y) h1]
    exact ⟨hne, fun m hm => hm⟩
  · by_cases h2 : z ∈ L.take (j + 1)
    · obtain ⟨h3, h4⟩ := arr_same hg hl hy hL hz hzn h1
      rw [mix_new h2]
      refine ⟨?_, fun m' hm' => ?_⟩
      · obtain ⟨m', t, h5, _⟩ := hopL_ne hw (show Nd (Wo g k) y from hy) (show Nd (Wo g k) z from hzn) (by omega) hzy
        rw [h5]; simp
      · rw [hopL_mem hw] at hm'
        obtain ⟨c, e, h5, h6⟩ := hm'
        obtain ⟨e1, hj⟩ := (wo_ed hg hl).1 e
        obtain ⟨_, hmn, _⟩ := e1.nd hg
        have h7 := D_wo hg hy hmn h5
        have h8 := D_edge hg hy e1.symm h7.1
        exact (mix_mem hg).2 (.inr ⟨h1, ⟨c, e1, h7.1, by omega⟩, hj⟩)
    · rw [mix_old h2, ← mix_old (g := g) (l := l) (k := k) (y := y) h1]
      exact ⟨hne, fun m hm => hm⟩
end
end Go.Proofs.Ytbhkjeicogjfbaa
