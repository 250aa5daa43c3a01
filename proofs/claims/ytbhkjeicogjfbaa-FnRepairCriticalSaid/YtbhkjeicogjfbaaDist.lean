/- Shortest distances in a graph, in plain Lean: what repeated relaxation of all links reckons is the least cost of a walk. Conditions: the graph is valid. -/
import Derived.Test.YtbhkjeicogjfbaaBase
namespace Go.Proofs.Ytbhkjeicogjfbaa

structure Lk where
  a : Int
  b : Int
  c : Int
structure Gr where
  n : Int
  ls : List Lk

def at' (d : List Int) (i : Int) : Int := d.getD i.toNat (-1)
def rel1 (d : List Int) (a b c : Int) : List Int := if 0 ≤ at' d a ∧ (at' d b < 0 ∨ at' d a + c < at' d b) then d.set b.toNat (at' d a + c) else d
def relax (d : List Int) (l : Lk) : List Int := rel1 (rel1 d l.a l.b l.c) l.b l.a l.c
def sweep (ls : List Lk) (d : List Int) : List Int := ls.foldl relax d
def iter (ls : List Lk) (d : List Int) : Nat → List Int
  | 0 => d
  | k + 1 => sweep ls (iter ls d k)
def start (n x : Int) : List Int := (List.replicate n.toNat (-1)).set x.toNat 0
def distL (g : Gr) (x : Int) : List Int := iter g.ls (start g.n x) g.n.toNat
def D (g : Gr) (x y : Int) : Int := at' (distL g x) y

/-- What is wrong with link l at place i. -/
def lBad (g : Gr) (i : Nat) (l : Lk) : Prop :=
  ¬ (0 ≤ l.a ∧ l.a < l.b ∧ l.b < g.n ∧ 1 ≤ l.c ∧ l.c ≤ 20) ∨ (∃ p, 0 < i ∧ g.ls[i-1]? = some p ∧ (l.a < p.a ∨ (p.a = l.a ∧ l.b ≤ p.b)))
structure GV (g : Gr) : Prop where
  n : 1 ≤ g.n ∧ g.n ≤ 8
  len : g.ls.length ≤ 14
  links : ∀ (i : Nat) (l : Lk), g.ls[i]? = some l → ¬ lBad g i l
def Nd (g : Gr) (x : Int) : Prop := 0 ≤ x ∧ x < g.n
def LV (g : Gr) (l : Lk) : Prop := Nd g l.a ∧ Nd g l.b ∧ l.a < l.b ∧ 1 ≤ l.c ∧ l.c ≤ 20

theorem GV.lv {g : Gr} (h : GV g) {l : Lk} (hl : l ∈ g.ls) : LV g l := by
  obtain ⟨i, hi⟩ := List.mem_iff_getElem?.1 hl
  have hb := h.links i l hi
  have h1 : 0 ≤ l.a ∧ l.a < l.b ∧ l.b < g.n ∧ 1 ≤ l.c ∧ l.c ≤ 20 := Classical.byContradiction fun h1 => hb (.inl h1)
  unfold LV Nd
  omega
theorem GV.asc1 {g : Gr} (h : GV g) {i : Nat} {p l : Lk} (hp : g.ls[i]? = some p) (hl : g.ls[i+1]? = some l) : p.a < l.a ∨ (p.a = l.a ∧ p.b < l.b) := by
  apply Classical.byContradiction
  intro hn
  exact h.links (i + 1) l hl (.inr ⟨p, by omega, by simpa using hp, by omega⟩)
theorem GV.asc {g : Gr} (h : GV g) {i j : Nat} (hij : i < j) {p l : Lk} (hp : g.ls[i]? = some p) (hl : g.ls[j]? = some l) : p.a < l.a ∨ (p.a = l.a ∧ p.b < l.b) := by
  obtain ⟨m, rfl⟩ : ∃ m, j = i + 1 + m := ⟨j - (i + 1), by omega⟩
  clear hij
  induction m generalizing l with
  | zero => exact h.asc1 hp hl
  | succ m ih =>
    have hlt := get_lt hl
    obtain ⟨q, hq⟩ := get_some (l := g.ls) (i := i + 1 + m) (by omega)
    have h1 := ih hq
    have h2 := h.asc1 hq (by rw [show i + 1 + m + 1 = i + 1 + (m + 1) from by omega]; exact hl)
    omega
theorem GV.place {g : Gr} (h : GV g) {i j : Nat} {p l : Lk} (hp : g.ls[i]? = some p) (hl : g.ls[j]? = some l) (ha : p.a = l.a) (hb : p.b = l.b) : i = j := by
  rcases Nat.lt_trichotomy i j with h1 | h1 | h1
  · have := h.asc h1 hp hl; omega
  · exact h1
  · have := h.asc h1 hl hp; omega

/-! ### Edges and walks -/
def Ed (g : Gr) (x y c : Int) : Prop := ∃ l ∈ g.ls, l.c = c ∧ ((l.a = x ∧ l.b = y) ∨ (l.a = y ∧ l.b = x))
theorem Ed.symm {g : Gr} {x y c : Int} (h : Ed g x y c) : Ed g y x c := by
  obtain ⟨l, h1, h2, h3⟩ := h
  exact ⟨l, h1, h2, h3.symm⟩
theorem Ed.nd {g : Gr} (hg : GV g) {x y c : Int} (h : Ed g x y c) : Nd g x ∧ Nd g y ∧ 1 ≤ c ∧ c ≤ 20 ∧ x ≠ y := by
  obtain ⟨l, h1, h2, h3⟩ := h
  have h4 := hg.lv h1
  unfold LV Nd at *
  omega
theorem Ed.uniq {g : Gr} (hg : GV g) {x y c c' : Int} (h : Ed g x y c) (h' : Ed g x y c') : c = c' := by
  obtain ⟨l, h1, h2, h3⟩ := h
  obtain ⟨m, k1, k2, k3⟩ := h'
  obtain ⟨i, hi⟩ := List.mem_iff_getElem?.1 h1
  obtain ⟨j, hj⟩ := List.mem_iff_getElem?.1 k1
  have v1 := hg.lv h1
  have v2 := hg.lv k1
  unfold LV Nd at v1 v2
  have := hg.place hi hj (by omega) (by omega)
  subst this
  rw [hi] at hj
  cases hj
  omega
inductive Wk (g : Gr) (x : Int) : Int → Int → Nat → Prop
  | nil : Wk g x x 0 0
  | snoc {y z v c : Int} {k : Nat} : Wk g x y v k → Ed g y z c → Wk g x z (v + c) (k + 1)
theorem Wk.to {g : Gr} {x y v v' : Int} {k : Nat} (h : Wk g x y v k) (hv : v = v') : Wk g x y v' k := hv ▸ h
theorem Wk.cons {g : Gr} {x y z c v : Int} {k : Nat} (e : Ed g x y c) (h : Wk g y z v k) : Wk g x z (c + v) (k + 1) := by
  induction h with
  | nil => exact (Wk.snoc Wk.nil e).to (by omega)
  | snoc h1 h2 ih => exact (Wk.snoc ih h2).to (by omega)
theorem Wk.back {g : Gr} {x y v : Int} {k : Nat} (h : Wk g x y v k) : Wk g y x v k := by
  induction h with
  | nil => exact Wk.nil
  | snoc h1 h2 ih => exact (Wk.cons h2.symm ih).to (by omega)
theorem Wk.trans {g : Gr} {x y z v v' : Int} {k k' : Nat} (h : Wk g x y v k) (h' : Wk g y z v' k') : Wk g x z (v + v') (k + k') := by
  induction h' with
  | nil => exact h.to (by omega)
  | snoc h1 h2 ih => exact (Wk.snoc ih h2).to (by omega)
theorem Wk.nd {g : Gr} (hg : GV g) {x y v : Int} {k : Nat} (h : Wk g x y v k) (hx : Nd g x) : Nd g y := by
  cases h with
  | nil => exact hx
  | snoc h1 h2 => exact (h2.nd hg).2.1
theorem Wk.bound {g : Gr} (hg : GV g) {x y v : Int} {k : Nat} (h : Wk g x y v k) : (k : Int) ≤ v ∧ v ≤ 20 * k := by
  induction h with
  | nil => omega
  | snoc h1 h2 ih => have := h2.nd hg; omega

/-! ### Relaxation -/
theorem at_set {d : List Int} {i j v : Int} (hi : 0 ≤ i) (hj : 0 ≤ j ∧ j < d.length) : at' (d.set j.toNat v) i = if i = j then v else at' d i := by
  unfold at'
  rw [List.getD_eq_getElem?_getD, List.getD_eq_getElem?_getD]
  by_cases h : i = j
  · subst h
    rw [if_pos rfl, List.getElem?_set_self (by omega)]
    rfl
  · rw [if_neg h, List.getElem?_set_ne (by omega)]
theorem rel1_len (d : List Int) (a b c : Int) : (rel1 d a b c).length = d.length := by
  unfold rel1
  split <;> simp
theorem relax_len (d : List Int) (l : Lk) : (relax d l).length = d.length := by
  unfold relax
  rw [rel1_len, rel1_len]
theorem sweep_len (ls : List Lk) (d : List Int) : (sweep ls d).length = d.length := by
  unfold sweep
  induction ls generalizing d with
  | nil => rfl
  | cons l ls ih => rw [List.foldl_cons, ih, relax_len]
theorem iter_len (ls : List Lk) (d : List Int) (k : Nat) : (iter ls d k).length = d.length := by
  induction k with
  | zero => rfl
  | succ k ih => rw [iter, sweep_len, ih]
theorem distL_len (g : Gr) (x : Int) : (distL g x).length = g.n.toNat := by
  unfold distL start
  rw [iter_len]
  simp

/-- d is as good as e. -/
def Le (d e : List Int) : Prop := ∀ y, 0 ≤ y → 0 ≤ at' e y → 0 ≤ at' d y ∧ at' d y ≤ at' e y
theorem Le.refl (d : List Int) : Le d d := fun _ _ h => ⟨h, Int.le_refl _⟩
theorem Le.trans {d e f : List Int} (h : Le d e) (h' : Le e f) : Le d f := fun y hy k => by
  have h1 := h' y hy k
  have h2 := h y hy h1.1
  omega
theorem rel1_le {d : List Int} {a b c : Int} (hc : 1 ≤ c) (hb : 0 ≤ b ∧ b < d.length) : Le (rel1 d a b c) d := by
  intro y hy h
  unfold rel1
  split
  · rename_i h1
    rw [at_set hy hb]
    split
    · rename_i h2
      subst h2
      omega
    · exact ⟨h, Int.le_refl _⟩
  · exact ⟨h, Int.le_refl _⟩
theorem rel1_edge {d : List Int} {a b c : Int} (hc : 1 ≤ c) (hb : 0 ≤ b ∧ b < d.length) (ha : 0 ≤ at' d a) : 0 ≤ at' (rel1 d a b c) b ∧ at' (rel1 d a b c) b ≤ at' d a + c := by
  unfold rel1
  split
  · rw [at_set hb.1 hb, if_pos rfl]
    omega
  · rename_i h1
    omega
theorem relax_le {d : List Int} {l : Lk} (hc : 1 ≤ l.c) (ha : 0 ≤ l.a ∧ l.a < d.length) (hb : 0 ≤ l.b ∧ l.b < d.length) : Le (relax d l) d :=
  (rel1_le hc (by rw [rel1_len]; exact ha)).trans (rel1_le hc hb)
theorem relax_edge {d : List Int} {l : Lk} (hc : 1 ≤ l.c) (ha : 0 ≤ l.a ∧ l.a < d.length) (hb : 0 ≤ l.b ∧ l.b < d.length) :
    (0 ≤ at' d l.a → 0 ≤ at' (relax d l) l.b ∧ at' (relax d l) l.b ≤ at' d l.a + l.c) ∧ (0 ≤ at' d l.b → 0 ≤ at' (relax d l) l.a ∧ at' (relax d l) l.a ≤ at' d l.b + l.c) := by
  have h0 := rel1_le (a := l.a) (d := d) hc hb
  have h1 : Le (relax d l) (rel1 d l.a l.b l.c) := rel1_le hc (by rw [rel1_len]; exact ha)
  refine ⟨fun h => ?_, fun h => ?_⟩
  · have h2 := rel1_edge hc hb h
    have h3 := h1 l.b hb.1 h2.1
    omega
  · have h2 := h0 l.b hb.1 h
    have h3 := rel1_edge (d := rel1 d l.a l.b l.c) (a := l.b) (b := l.a) hc (by rw [rel1_len]; exact ha) h2.1
    exact ⟨h3.1, by unfold relax; omega⟩
def InR (ls : List Lk) (n : Nat) : Prop := ∀ l ∈ ls, 1 ≤ l.c ∧ (0 ≤ l.a ∧ l.a < n) ∧ (0 ≤ l.b ∧ l.b < n)
theorem sweep_le {ls : List Lk} {d : List Int} (h : InR ls d.length) : Le (sweep ls d) d := by
  unfold sweep
  induction ls generalizing d with
  | nil => exact Le.refl d
  | cons l ls ih =>
    obtain ⟨h1, h2, h3⟩ := h l (by simp)
    rw [List.foldl_cons]
    exact (ih (by rw [relax_len]; exact fun m hm => h m (by simp [hm]))).trans (relax_le h1 h2 h3)
theorem sweep_edge {ls : List Lk} {d : List Int} (h : InR ls d.length) {m : Lk} (hm : m ∈ ls) :
    (0 ≤ at' d m.a → 0 ≤ at' (sweep ls d) m.b ∧ at' (sweep ls d) m.b ≤ at' d m.a + m.c) ∧ (0 ≤ at' d m.b → 0 ≤ at' (sweep ls d) m.a ∧ at' (sweep ls d) m.a ≤ at' d m.b + m.c) := by
  induction ls generalizing d with
  | nil => cases hm
  | cons l ls ih =>
    obtain ⟨h1, h2, h3⟩ := h l (by simp)
    have hr : InR ls (relax d l).length := by rw [relax_len]; exact fun m hm => h m (by simp [hm])
    have e : sweep (l :: ls) d = sweep ls (relax d l) := rfl
    rw [e]
    rcases List.mem_cons.1 hm with rfl | hm
    · have h4 := relax_edge (d := d) h1 h2 h3
      have h5 := sweep_le hr
      refine ⟨fun k => ?_, fun k => ?_⟩
      · have := h4.1 k
        have := h5 m.b h3.1 this.1
        omega
      · have := h4.2 k
        have := h5 m.a h2.1 this.1
        omega
    · obtain ⟨q1, q2, q3⟩ := h m (by simp [hm])
      have h4 := ih hr hm
      have h5 := relax_le (d := d) h1 h2 h3
      refine ⟨fun k => ?_, fun k => ?_⟩
      · have := h5 m.a q2.1 k
        have := h4.1 this.1
        omega
      · have := h5 m.b q3.1 k
        have := h4.2 this.1
        omega

/-! ### Bounds, for the walk -/
def Bd (M : Int) (d : List Int) : Prop := ∀ i, -1 ≤ at' d i ∧ at' d i ≤ M
theorem at_mem_or (d : List Int) (i : Int) : at' d i = -1 ∨ at' d i ∈ d := by
  unfold at'
  rw [List.getD_eq_getElem?_getD]
  cases h : d[i.toNat]? with
  | none => exact .inl rfl
  | some v => exact .inr (List.mem_of_getElem? h)
theorem bd_of {M : Int} {d : List Int} (hM : -1 ≤ M) (h : ∀ v ∈ d, -1 ≤ v ∧ v ≤ M) : Bd M d := fun i => by
  rcases at_mem_or d i with h1 | h1
  · omega
  · exact h _ h1
theorem bd_mem {M : Int} {d : List Int} (h : Bd M d) : ∀ v ∈ d, -1 ≤ v ∧ v ≤ M := fun v hv => by
  obtain ⟨i, hi⟩ := List.mem_iff_getElem?.1 hv
  have := h i
  unfold at' at this
  rw [List.getD_eq_getElem?_getD, Int.toNat_natCast, hi] at this
  exact this
theorem Bd.mono {M M' : Int} {d : List Int} (h : Bd M d) (hM : M ≤ M') : Bd M' d := fun i => by have := h i; omega
theorem rel1_bd {M : Int} {d : List Int} {a b c : Int} (h : Bd M d) (hc : 1 ≤ c ∧ c ≤ 20) : Bd (M + 20) (rel1 d a b c) := by
  unfold rel1
  split
  · rename_i h1
    have ha := h a
    refine bd_of (by omega) fun v hv => ?_
    rcases List.mem_or_eq_of_mem_set hv with h2 | h2
    · have := bd_mem h v h2
      omega
    · omega
  · exact h.mono (by omega)
theorem relax_bd {M : Int} {d : List Int} {l : Lk} (h : Bd M d) (hc : 1 ≤ l.c ∧ l.c ≤ 20) : Bd (M + 40) (relax d l) := (rel1_bd (rel1_bd h hc) hc).mono (by omega)
theorem start_bd (n x : Int) : Bd 0 (start n x) := bd_of (by omega) fun v hv => by
  unfold start at hv
  rcases List.mem_or_eq_of_mem_set hv with h2 | h2
  · have := List.eq_of_mem_replicate h2
    omega
  · omega

/-! ### Relaxation finds walks alone -/
def Snd (g : Gr) (x : Int) (d : List Int) : Prop := (d.length : Int) = g.n ∧ ∀ y, Nd g y → -1 ≤ at' d y ∧ (0 ≤ at' d y → ∃ k, Wk g x y (at' d y) k)
theorem rel1_snd {g : Gr} {x : Int} {d : List Int} {a b c : Int} (h : Snd g x d) (e : Ed g a b c) (ha : Nd g a) (hb : Nd g b) (hc : 1 ≤ c) : Snd g x (rel1 d a b c) := by
  refine ⟨by rw [rel1_len]; exact h.1, fun y hy => ?_⟩
  unfold rel1
  split
  · rename_i h1
    have hl := h.1
    unfold Nd at hb hy
    rw [at_set hy.1 (by omega)]
    split
    · rename_i h2
      subst h2
      obtain ⟨k, hk⟩ := (h.2 a ha).2 h1.1
      exact ⟨by omega, fun _ => ⟨k + 1, hk.snoc e⟩⟩
    · exact h.2 y hy
  · exact h.2 y hy
theorem relax_snd {g : Gr} (hg : GV g) {x : Int} {d : List Int} {l : Lk} (h : Snd g x d) (hl : l ∈ g.ls) : Snd g x (relax d l) := by
  obtain ⟨h1, h2, h3, h4, h5⟩ := hg.lv hl
  have e : Ed g l.a l.b l.c := ⟨l, hl, rfl, .inl ⟨rfl, rfl⟩⟩
  exact rel1_snd (rel1_snd h e h1 h2 h4) e.symm h2 h1 h4
theorem sweep_snd {g : Gr} (hg : GV g) {x : Int} {d : List Int} {ls : List Lk} (h : Snd g x d) (hl : ∀ l ∈ ls, l ∈ g.ls) : Snd g x (sweep ls d) := by
  unfold sweep
  induction ls generalizing d with
  | nil => exact h
  | cons l ls ih => exact ih (relax_snd hg h (hl l (by simp))) fun m hm => hl m (by simp [hm])
theorem start_at {n x y : Int} (hx : 0 ≤ x ∧ x < n) (hy : 0 ≤ y) : at' (start n x) y = if y = x then 0 else -1 := by
  unfold start
  rw [at_set hy (by simp; omega)]
  split
  · rfl
  · unfold at'
    rw [List.getD_eq_getElem?_getD, List.getElem?_replicate]
    split <;> rfl
theorem start_snd {g : Gr} {x : Int} (hx : Nd g x) : Snd g x (start g.n x) := by
  refine ⟨by unfold start Nd at *; simp; omega, fun y hy => ?_⟩
  rw [start_at hx hy.1]
  split
  · rename_i h
    subst h
    exact ⟨by omega, fun _ => ⟨0, Wk.nil⟩⟩
  · exact ⟨by omega, fun h => by omega⟩
theorem iter_snd {g : Gr} (hg : GV g) {x : Int} (hx : Nd g x) (k : Nat) : Snd g x (iter g.ls (start g.n x) k) := by
  induction k with
  | zero => exact start_snd hx
  | succ k ih => exact sweep_snd hg ih fun l hl => hl
theorem GV.inR {g : Gr} (hg : GV g) {m : Nat} (hm : (m : Int) = g.n) : InR g.ls m := fun l hl => by
  have := hg.lv hl
  unfold LV Nd at this
  omega
theorem iter_done {g : Gr} (hg : GV g) {x : Int} (hx : Nd g x) {y v : Int} {k m : Nat} (h : Wk g x y v k) (hk : k ≤ m) : 0 ≤ at' (iter g.ls (start g.n x) m) y ∧ at' (iter g.ls (start g.n x) m) y ≤ v := by
  have hlen : ∀ j, ((iter g.ls (start g.n x) j).length : Int) = g.n := fun j => (iter_snd hg hx j).1
  induction h generalizing m with
  | nil =>
    clear hk
    induction m with
    | zero => rw [iter, start_at hx hx.1, if_pos rfl]; omega
    | succ m ih =>
      have := sweep_le (hg.inR (hlen m)) x hx.1 ih.1
      exact ⟨this.1, Int.le_trans this.2 ih.2⟩
  | snoc h1 e ih =>
    cases m with
    | zero => omega
    | succ m =>
      have h2 := ih (m := m) (by omega)
      obtain ⟨l, hl, rfl, hab⟩ := e
      have h3 := sweep_edge (hg.inR (hlen m)) hl
      rcases hab with ⟨rfl, rfl⟩ | ⟨rfl, rfl⟩
      · have := h3.1 h2.1
        exact ⟨this.1, by rw [iter]; omega⟩
      · have := h3.2 h2.1
        exact ⟨this.1, by rw [iter]; omega⟩

/-! ### A cheapest walk has few links -/
/-- v is the least cost of a walk. -/
def Mn (g : Gr) (x y v : Int) : Prop := (∃ k, Wk g x y v k) ∧ ∀ v' k, Wk g x y v' k → v ≤ v'
theorem Mn.uniq {g : Gr} {x y v v' : Int} (h : Mn g x y v) (h' : Mn g x y v') : v = v' := by
  obtain ⟨⟨k, hk⟩, h2⟩ := h
  obtain ⟨⟨k', hk'⟩, h2'⟩ := h'
  have := h2 _ _ hk'
  have := h2' _ _ hk
  omega
theorem mn_ex {g : Gr} (hg : GV g) {x y : Int} : ∀ (m : Nat) {v : Int} {k : Nat}, v.toNat ≤ m → Wk g x y v k → ∃ u, Mn g x y u := by
  intro m
  induction m with
  | zero =>
    intro v k hm h
    refine ⟨v, ⟨k, h⟩, fun v' k' h' => ?_⟩
    have := h'.bound hg
    have := h.bound hg
    omega
  | succ m ih =>
    intro v k hm h
    by_cases hx : ∃ v' k', Wk g x y v' k' ∧ v' < v
    · obtain ⟨v', k', h', hlt⟩ := hx
      have := h'.bound hg
      exact ih (by omega) h'
    · refine ⟨v, ⟨k, h⟩, fun v' k' h' => ?_⟩
      apply Classical.byContradiction
      intro hn
      exact hx ⟨v', k', h', by omega⟩
/-- How many of the nodes below n are cheaper than v. -/
noncomputable def cnt (g : Gr) (x v : Int) : Nat := (List.range g.n.toNat).countP fun z : Nat => tb (∃ u, Mn g x (z : Int) u ∧ u < v)
theorem countP_lt {p q : Nat → Bool} {l : List Nat} (h : ∀ a, p a = true → q a = true) {z : Nat} (hz : z ∈ l) (hp : p z = false) (hq : q z = true) : l.countP p < l.countP q := by
  induction l with
  | nil => cases hz
  | cons a l ih =>
    have hle : l.countP p ≤ l.countP q := List.countP_mono_left fun a _ => h a
    rw [List.countP_cons, List.countP_cons]
    rcases List.mem_cons.1 hz with rfl | hz
    · rw [hp, hq]
      simp
      omega
    · have := ih hz
      have h1 := h a
      cases ha : p a with
      | false => simp; omega
      | true => rw [h1 ha]; simp; omega
theorem cnt_lt {g : Gr} {x y v : Int} (hy : Nd g y) (h : Mn g x y v) : cnt g x v < g.n.toNat := by
  have h1 : (List.range g.n.toNat).countP (fun _ => true) = g.n.toNat := by simp
  unfold Nd at hy
  have h2 : cnt g x v < (List.range g.n.toNat).countP (fun _ => true) := by
    refine countP_lt (fun _ _ => rfl) (z := y.toNat) (by simp; omega) (tb_no ?_) rfl
    rintro ⟨u, hu, hlt⟩
    rw [show ((y.toNat : Nat) : Int) = y from by omega] at hu
    have := hu.uniq h
    omega
  omega
theorem mn_few {g : Gr} (hg : GV g) {x : Int} (_hx : Nd g x) : ∀ (m : Nat) (y v : Int), Mn g x y v → v.toNat ≤ m → ∃ k, Wk g x y v k ∧ k ≤ cnt g x v := by
  intro m
  induction m with
  | zero =>
    intro y v h hm
    obtain ⟨⟨k, hk⟩, _⟩ := h
    have := hk.bound hg
    exact ⟨k, hk, by omega⟩
  | succ m ih =>
    intro y v h hm
    obtain ⟨⟨k, hk⟩, h2⟩ := h
    cases hk with
    | nil => exact ⟨0, Wk.nil, by omega⟩
    | snoc h1 e =>
      rename_i z u c j
      have hc := e.nd hg
      have hM : Mn g x z u := ⟨⟨j, h1⟩, fun v' k' h' => by have := h2 _ _ (h'.snoc e); omega⟩
      have := h1.bound hg
      obtain ⟨i, hi, hle⟩ := ih z u hM (by omega)
      refine ⟨i + 1, hi.snoc e, ?_⟩
      have hz := hc.1
      unfold Nd at hz
      have hlt : cnt g x u < cnt g x (u + c) := by
        refine countP_lt (fun a ha => ?_) (z := z.toNat) (by simp; omega) (tb_no ?_) (tb_yes ?_)
        · obtain ⟨t, ht, hlt⟩ := tb_spec ha
          exact tb_yes ⟨t, ht, by omega⟩
        · rintro ⟨t, ht, hlt⟩
          rw [show ((z.toNat : Nat) : Int) = z from by omega] at ht
          have := ht.uniq hM
          omega
        · exact ⟨u, by rw [show ((z.toNat : Nat) : Int) = z from by omega]; exact hM, by omega⟩
      omega

/-! ### What distances are -/
theorem D_no {g : Gr} (hg : GV g) {x y : Int} (hx : Nd g x) (hy : Nd g y) (h : D g x y < 0) {v : Int} {k : Nat} : ¬ Wk g x y v k := by
  intro hw
  obtain ⟨u, hu⟩ := mn_ex hg v.toNat (Nat.le_refl _) hw
  obtain ⟨j, hj, hle⟩ := mn_few hg hx u.toNat y u hu (Nat.le_refl _)
  have h1 := cnt_lt hy hu
  have h2 := iter_done hg hx hj (m := g.n.toNat) (by omega)
  have h3 : D g x y = at' (iter g.ls (start g.n x) g.n.toNat) y := rfl
  omega
theorem D_mn {g : Gr} (hg : GV g) {x y : Int} (hx : Nd g x) (hy : Nd g y) (h : 0 ≤ D g x y) : Mn g x y (D g x y) := by
  have hs := (iter_snd hg hx g.n.toNat).2 y hy
  obtain ⟨k, hk⟩ := hs.2 h
  refine ⟨⟨k, hk⟩, fun v' k' h' => ?_⟩
  obtain ⟨u, hu⟩ := mn_ex hg v'.toNat (Nat.le_refl _) h'
  obtain ⟨j, hj, hle⟩ := mn_few hg hx u.toNat y u hu (Nat.le_refl _)
  have h1 := cnt_lt hy hu
  have h2 := iter_done hg hx hj (m := g.n.toNat) (by omega)
  have h3 : D g x y = at' (iter g.ls (start g.n x) g.n.toNat) y := rfl
  have h4 := hu.2 _ _ h'
  omega
theorem D_ge {g : Gr} (hg : GV g) {x y : Int} (hx : Nd g x) (hy : Nd g y) : -1 ≤ D g x y := ((iter_snd hg hx g.n.toNat).2 y hy).1
theorem D_walk {g : Gr} (hg : GV g) {x y v : Int} {k : Nat} (hx : Nd g x) (h : Wk g x y v k) : 0 ≤ D g x y ∧ D g x y ≤ v := by
  have hy := h.nd hg hx
  have h0 : 0 ≤ D g x y := by
    apply Classical.byContradiction
    intro hn
    exact D_no hg hx hy (by omega) h
  exact ⟨h0, (D_mn hg hx hy h0).2 _ _ h⟩
theorem D_of {g : Gr} (hg : GV g) {x y v : Int} (hx : Nd g x) (h : Mn g x y v) : D g x y = v := by
  obtain ⟨⟨k, hk⟩, h2⟩ := h
  have h3 := D_walk hg hx hk
  obtain ⟨⟨j, hj⟩, _⟩ := D_mn hg hx (hk.nd hg hx) h3.1
  have := h2 _ _ hj
  omega
theorem D_few {g : Gr} (hg : GV g) {x y : Int} (hx : Nd g x) (hy : Nd g y) : D g x y ≤ 20 * (g.n - 1) := by
  have hn := hg.n
  by_cases h : 0 ≤ D g x y
  · have hm := D_mn hg hx hy h
    obtain ⟨j, hj, hle⟩ := mn_few hg hx _ y _ hm (Nat.le_refl _)
    have h1 := cnt_lt hy hm
    have := hj.bound hg
    omega
  · omega
theorem D_self {g : Gr} (hg : GV g) {x : Int} (hx : Nd g x) : D g x x = 0 := by
  have := D_walk hg hx (Wk.nil (g := g) (x := x))
  omega
theorem D_symm {g : Gr} (hg : GV g) {x y : Int} (hx : Nd g x) (hy : Nd g y) : D g x y = D g y x := by
  have key : ∀ {x y : Int}, Nd g x → Nd g y → 0 ≤ D g x y → D g y x = D g x y := by
    intro x y hx hy h
    obtain ⟨⟨k, hk⟩, h2⟩ := D_mn hg hx hy h
    exact D_of hg hy ⟨⟨k, hk.back⟩, fun v' k' h' => h2 _ _ h'.back⟩
  by_cases h : 0 ≤ D g x y
  · exact (key hx hy h).symm
  · by_cases h' : 0 ≤ D g y x
    · exact key hy hx h'
    · have := D_ge hg hx hy
      have := D_ge hg hy hx
      omega
theorem D_edge {g : Gr} (hg : GV g) {x y z c : Int} (hx : Nd g x) (e : Ed g y z c) (h : 0 ≤ D g x y) : 0 ≤ D g x z ∧ D g x z ≤ D g x y + c := by
  obtain ⟨⟨k, hk⟩, _⟩ := D_mn hg hx (e.nd hg).1 h
  exact D_walk hg hx (hk.snoc e)
theorem D_tri {g : Gr} (hg : GV g) {x y z : Int} (hx : Nd g x) (hy : Nd g y) (hz : Nd g z) (h : 0 ≤ D g x y) (h' : 0 ≤ D g y z) : 0 ≤ D g x z ∧ D g x z ≤ D g x y + D g y z := by
  obtain ⟨⟨k, hk⟩, _⟩ := D_mn hg hx hy h
  obtain ⟨⟨k', hk'⟩, _⟩ := D_mn hg hy hz h'
  exact D_walk hg hx (hk.trans hk')
theorem D_pred {g : Gr} (hg : GV g) {x y : Int} (hx : Nd g x) (hy : Nd g y) (h : 0 ≤ D g x y) (hne : y ≠ x) : ∃ m c, Ed g m y c ∧ 0 ≤ D g x m ∧ D g x m + c = D g x y := by
  obtain ⟨⟨k, hk⟩, h2⟩ := D_mn hg hx hy h
  obtain ⟨v, hv⟩ : ∃ v, v = D g x y := ⟨_, rfl⟩
  rw [← hv] at hk h2 ⊢
  cases hk with
  | nil => exact absurd rfl hne
  | snoc h1 e =>
    rename_i z u c j
    refine ⟨z, c, e, ?_⟩
    have h3 : Mn g x z u := ⟨⟨j, h1⟩, fun v' k' h' => by have := h2 _ _ (h'.snoc e); omega⟩
    have h4 := D_of hg hx h3
    have := h1.bound hg
    omega
theorem D_zero {g : Gr} (hg : GV g) {x y : Int} (hx : Nd g x) (hy : Nd g y) (h : D g x y = 0) : y = x := by
  apply Classical.byContradiction
  intro hne
  obtain ⟨m, c, e, h1, h2⟩ := D_pred hg hx hy (by omega) hne
  have := e.nd hg
  omega
end Go.Proofs.Ytbhkjeicogjfbaa
