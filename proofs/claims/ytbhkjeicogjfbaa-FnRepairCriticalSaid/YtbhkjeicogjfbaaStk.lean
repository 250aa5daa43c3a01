/- Labels, stacks of labels, prepared repairs in plain Lean. Conditions: the graph is valid. -/
import Derived.Test.YtbhkjeicogjfbaaHops
namespace Go.Proofs.Ytbhkjeicogjfbaa

/-! ### The link between two nodes -/
def isL (a b : Int) (l : Lk) : Bool := decide (l.a = min a b) && decide (l.b = max a b)
def lnkN (g : Gr) (a b : Int) : Option Nat := g.ls.findIdx? (isL a b)
def lnk (g : Gr) (a b : Int) : Int := match lnkN g a b with
  | some j => j
  | none => -1
theorem isL_iff {a b : Int} {l : Lk} (h : l.a < l.b) : isL a b l = true ↔ Jn l a b := by
  unfold isL Jn
  simp only [Bool.and_eq_true, decide_eq_true_eq]
  omega
theorem lnk_at {g : Gr} {a b : Int} {j : Nat} {l : Lk} (hl : g.ls[j]? = some l) (h : isL a b l = true) (hb : ∀ i m, i < j → g.ls[i]? = some m → isL a b m = false) : lnk g a b = j := by
  have : lnkN g a b = some j := by
    unfold lnkN
    rw [List.findIdx?_eq_some_iff_getElem]
    have hj := get_lt hl
    rw [List.getElem?_eq_getElem hj] at hl
    cases hl
    refine ⟨hj, h, fun i hi => ?_⟩
    rw [hb i _ hi (List.getElem?_eq_getElem (by omega))]
    simp
  unfold lnk
  rw [this]
theorem lnk_none {g : Gr} {a b : Int} (h : ∀ (i : Nat) (m : Lk), g.ls[i]? = some m → isL a b m = false) : lnk g a b = -1 := by
  have : lnkN g a b = none := by
    unfold lnkN
    rw [List.findIdx?_eq_none_iff]
    intro m hm
    obtain ⟨i, hi⟩ := List.mem_iff_getElem?.1 hm
    exact h i m hi
  unfold lnk
  rw [this]
theorem lnk_cases (g : Gr) (a b : Int) : (lnk g a b = -1 ∧ ∀ m ∈ g.ls, isL a b m = false) ∨ ∃ (j : Nat) (l : Lk), lnk g a b = j ∧ g.ls[j]? = some l ∧ isL a b l = true := by
  cases h : lnkN g a b with
  | none =>
    left
    unfold lnk
    rw [h]
    unfold lnkN at h
    rw [List.findIdx?_eq_none_iff] at h
    exact ⟨rfl, fun m hm => h m hm⟩
  | some j =>
    right
    unfold lnk
    rw [h]
    unfold lnkN at h
    rw [List.findIdx?_eq_some_iff_getElem] at h
    obtain ⟨hj, h1, _⟩ := h
    exact ⟨j, _, rfl, List.getElem?_eq_getElem hj, h1⟩
theorem lnk_jn {g : Gr} (hg : GV g) {a b : Int} {j : Nat} {l : Lk} (hl : g.ls[j]? = some l) (h : Jn l a b) : lnk g a b = j := by
  have h1 := (isL_iff (hg.lv (List.mem_of_getElem? hl)).2.2.1).2 h
  rcases lnk_cases g a b with ⟨_, h2⟩ | ⟨i, m, h2, h3, h4⟩
  · rw [h2 l (List.mem_of_getElem? hl)] at h1; cases h1
  · have h5 := (isL_iff (hg.lv (List.mem_of_getElem? h3)).2.2.1).1 h4
    have v1 := (hg.lv (List.mem_of_getElem? hl)).2.2.1
    have v2 := (hg.lv (List.mem_of_getElem? h3)).2.2.1
    unfold Jn at h h5
    have := hg.place hl h3 (by omega) (by omega)
    subst this
    exact h2
theorem lnk_lt (g : Gr) (a b : Int) : -1 ≤ lnk g a b ∧ lnk g a b < g.ls.length := by
  rcases lnk_cases g a b with ⟨h, _⟩ | ⟨j, l, h, h2, _⟩
  · omega
  · have := get_lt h2; omega

/-! ### Labels -/
structure Lb where
  k : Int
  a : Int
/-- The node to which a label leads from x. -/
noncomputable def useL (g : Gr) (x : Int) (b : Lb) : Option Int :=
  if b.k = 1 then (if tb (Nd g b.a ∧ 0 ≤ D g x b.a) = true then some b.a else none)
  else if b.k = 2 then (if 0 ≤ b.a then (match g.ls[b.a.toNat]? with
    | some l => if l.a = x then some l.b else if l.b = x then some l.a else none
    | none => none) else none)
  else none
theorem use_node {g : Gr} {x z : Int} (h : Nd g z ∧ 0 ≤ D g x z) : useL g x ⟨1, z⟩ = some z := by
  unfold useL
  rw [if_pos rfl, if_pos (tb_yes h)]
theorem use_link {g : Gr} {x z : Int} {j : Nat} {l : Lk} (hl : g.ls[j]? = some l) (h : Jn l x z) (hlt : l.a < l.b) : useL g x ⟨2, j⟩ = some z := by
  unfold useL
  simp only [show ¬ ((2 : Int) = 1) from by omega, if_false, if_true, Int.toNat_natCast, show (0 : Int) ≤ j from by omega, hl]
  rcases h with ⟨rfl, rfl⟩ | ⟨rfl, rfl⟩
  · rw [if_pos rfl]
  · rw [if_neg (by omega), if_pos rfl]
/-- The nodes behind each label, the first one included. -/
noncomputable def nodesL (g : Gr) : Int → List Lb → Option (List Int)
  | x, [] => some [x]
  | x, b :: S => match useL g x b with
    | some z => (nodesL g z S).map (x :: ·)
    | none => none
noncomputable def endL (g : Gr) : Int → List Lb → Option Int
  | x, [] => some x
  | x, b :: S => (useL g x b).bind fun z => endL g z S
def costOf (g : Gr) (j : Int) : Int := match g.ls[j.toNat]? with
  | some l => l.c
  | none => 0
noncomputable def costL (g : Gr) : Int → List Lb → Int
  | _, [] => 0
  | x, b :: S => match useL g x b with
    | some z => (if b.k = 1 then D g x z else costOf g b.a) + costL g z S
    | none => 0
def crossL (g : Gr) (k : Int) (l : Lk) : Int → List Lb → Prop
  | _, [] => False
  | x, b :: S => match useL g x b with
    | some z => (b.k = 2 ∧ b.a = k) ∨ (b.k = 1 ∧ Us g l x z) ∨ crossL g k l z S
    | none => False

/-! ### Repairs -/
/-- The labels that lead along the path P from its place i on. -/
inductive Gd (g : Gr) (l : Lk) (P : List Int) : Nat → List Lb → Prop
  | done {i : Nat} : P.length ≤ i + 1 → Gd g l P i []
  | node {i e : Nat} {a b : Int} {S : List Lb} : i < e → P[i]? = some a → P[e]? = some b → Sf g l a b → (∀ j c, e < j → P[j]? = some c → ¬ Sf g l a c) → Gd g l P e S → Gd g l P i (⟨1, b⟩ :: S)
  | link {i : Nat} {a b : Int} {S : List Lb} : P[i]? = some a → P[i + 1]? = some b → (∀ j c, i < j → P[j]? = some c → ¬ Sf g l a c) → Gd g l P (i + 1) S → Gd g l P i (⟨2, lnk g a b⟩ :: S)
theorem Gd.uniq {g : Gr} {l : Lk} {P : List Int} {i : Nat} {S : List Lb} (h : Gd g l P i S) : ∀ {S'}, Gd g l P i S' → S = S' := by
  induction h with
  | done h1 =>
    intro S' h'
    cases h' with
    | done _ => rfl
    | node k1 k2 k3 => have := get_lt k3; omega
    | link k1 k2 => have := get_lt k2; omega
  | node h1 h2 h3 h4 h5 h6 ih =>
    intro S' h'
    cases h' with
    | done k1 => have := get_lt h3; omega
    | node k1 k2 k3 k4 k5 k6 =>
      rename_i i e a b S e' a' b' S'
      rw [h2] at k2
      cases k2
      have he : e = e' := by
        rcases Nat.lt_trichotomy e e' with h | h | h
        · exact absurd k4 (h5 e' b' h k3)
        · exact h
        · exact absurd h4 (k5 e b h h3)
      subst he
      rw [h3] at k3
      cases k3
      rw [ih k6]
    | link k1 k2 k3 k4 =>
      rw [h2] at k1
      cases k1
      exact absurd h4 (k3 _ _ h1 h3)
  | link h1 h2 h3 h4 ih =>
    intro S' h'
    cases h' with
    | done k1 => have := get_lt h2; omega
    | node k1 k2 k3 k4 k5 k6 =>
      rw [h1] at k2
      cases k2
      exact absurd k4 (h3 _ _ k1 k3)
    | link k1 k2 k3 k4 =>
      rw [h1] at k1
      cases k1
      rw [h2] at k2
      cases k2
      rw [ih k4]
theorem Gd.len {g : Gr} {l : Lk} {P : List Int} {i : Nat} {S : List Lb} (h : Gd g l P i S) (hi : i < P.length) : i + S.length + 1 ≤ P.length := by
  induction h with
  | done h1 => simp; omega
  | node h1 h2 h3 h4 h5 h6 ih => have := ih (get_lt h3); simp; omega
  | link h1 h2 h3 h4 ih => have := ih (get_lt h2); simp; omega
/-- A stack of labels that goes round the link with number k from x to y. -/
inductive Good (g : Gr) (k : Nat) (l : Lk) (y : Int) : Int → List Lb → Prop
  | nil : Good g k l y y []
  | node {x z : Int} {S : List Lb} : Nd g x → Nd g z → Sf g l x z → Good g k l y z S → Good g k l y x (⟨1, z⟩ :: S)
  | link {x z : Int} {j : Nat} {m : Lk} {S : List Lb} : g.ls[j]? = some m → j ≠ k → Jn m x z → Good g k l y z S → Good g k l y x (⟨2, j⟩ :: S)
section
variable {g : Gr} {k : Nat} {l : Lk} {x y : Int} {S : List Lb}
theorem Gd.good (hg : GV g) (_hl : g.ls[k]? = some l) (hy : Nd g y) {x0 : Int} {P : List Int} (hP : Pt (Wo g k) y x0 P) {i : Nat} (h : Gd g l P i S) : ∀ {a}, P[i]? = some a → Good g k l y a S := by
  have hw := wo_gv hg k
  have nd : ∀ {i : Nat} {a : Int}, P[i]? = some a → Nd g a := fun ha => ((hP.tail ha).reach hw (show Nd (Wo g k) y from hy)).2
  induction h with
  | done h1 =>
    intro a ha
    have := get_lt ha
    have h2 := hP.last
    rename_i i
    rw [show P.length - 1 = i from by omega, ha] at h2
    cases h2
    exact .nil
  | node h1 h2 h3 h4 h5 h6 ih =>
    intro a ha
    rw [h2] at ha
    cases ha
    exact .node (nd h2) (nd h3) h4 (ih h3)
  | link h1 h2 h3 h4 ih =>
    intro a ha
    rw [h1] at ha
    cases ha
    obtain ⟨c, e, _⟩ := hP.hop hw h1 h2
    obtain ⟨m, hm, _, hj⟩ := e
    obtain ⟨j, hjk, hmj⟩ := wo_mem.1 hm
    have hj' : Jn m _ _ := hj
    rw [lnk_jn hg hmj hj']
    exact .link hmj hjk hj' (ih h2)
theorem Good.ends (hg : GV g) (h : Good g k l y x S) : endL g x S = some y := by
  induction h with
  | nil => rfl
  | node h1 h2 h3 h4 ih => unfold endL; rw [use_node ⟨h2, h3.1⟩]; exact ih
  | link h1 h2 h3 h4 ih => unfold endL; rw [use_link h1 h3 (hg.lv (List.mem_of_getElem? h1)).2.2.1]; exact ih
theorem Good.nodes (hg : GV g) (h : Good g k l y x S) : ∃ L, nodesL g x S = some L ∧ L.length = S.length + 1 ∧ L[S.length]? = some y := by
  induction h with
  | nil => exact ⟨_, rfl, rfl, rfl⟩
  | node h1 h2 h3 h4 ih =>
    obtain ⟨L, e1, e2, e3⟩ := ih
    refine ⟨_, by unfold nodesL; rw [use_node ⟨h2, h3.1⟩]; simp only [e1]; rfl, by simp [e2], by simpa using e3⟩
  | link h1 h2 h3 h4 ih =>
    obtain ⟨L, e1, e2, e3⟩ := ih
    refine ⟨_, by unfold nodesL; rw [use_link h1 h3 (hg.lv (List.mem_of_getElem? h1)).2.2.1]; simp only [e1]; rfl, by simp [e2], by simpa using e3⟩
theorem Good.cross (hg : GV g) (h : Good g k l y x S) : ¬ crossL g k l x S := by
  induction h with
  | nil => exact fun h => h
  | node h1 h2 h3 h4 ih =>
    unfold crossL
    rw [use_node ⟨h2, h3.1⟩]
    rintro (⟨h, _⟩ | ⟨_, h⟩ | h)
    · simp at h
    · exact h3.2 h
    · exact ih h
  | link h1 h2 h3 h4 ih =>
    unfold crossL
    rw [use_link h1 h3 (hg.lv (List.mem_of_getElem? h1)).2.2.1]
    rintro (⟨_, h⟩ | ⟨h, _⟩ | h)
    · simp only at h; omega
    · simp at h
    · exact ih h
/-- A label as it reads in the graph without link k. -/
def shift (k : Nat) (b : Lb) : Lb := if b.k = 2 ∧ (k : Int) < b.a then ⟨b.k, b.a - 1⟩ else b
theorem Good.shifted (hg : GV g) (hl : g.ls[k]? = some l) (h : Good g k l y x S) : endL (Wo g k) x (S.map (shift k)) = some y ∧ costL (Wo g k) x (S.map (shift k)) = costL g x S := by
  induction h with
  | nil => exact ⟨rfl, rfl⟩
  | node h1 h2 h3 h4 ih =>
    rename_i x z S
    have hD := safe_D hg hl h1 h2 h3
    have e : shift k ⟨1, z⟩ = ⟨1, z⟩ := by unfold shift; rw [if_neg (by simp)]
    have u1 := use_node (g := g) (x := x) ⟨h2, h3.1⟩
    have u2 := use_node (g := Wo g k) (x := x) (z := z) ⟨h2, by rw [hD]; exact h3.1⟩
    rw [List.map_cons, e]
    refine ⟨?_, ?_⟩
    · unfold endL; rw [u2]; exact ih.1
    · unfold costL; rw [u1, u2]; simp only [if_true]; rw [ih.2, hD]
  | link h1 h2 h3 h4 ih =>
    rename_i x z j m S
    have hlt := (hg.lv (List.mem_of_getElem? h1)).2.2.1
    have u1 := use_link h1 h3 hlt
    obtain ⟨j', e, hm⟩ : ∃ j' : Nat, shift k ⟨2, j⟩ = ⟨2, j'⟩ ∧ (Wo g k).ls[j']? = some m := by
      by_cases hjk : j < k
      · refine ⟨j, ?_, by rw [wo_get, if_pos hjk]; exact h1⟩
        unfold shift
        rw [if_neg (by simp only; omega)]
      · refine ⟨j - 1, ?_, by rw [wo_get, if_neg (by omega), show j - 1 + 1 = j from by omega]; exact h1⟩
        unfold shift
        rw [if_pos ⟨rfl, by simp only; omega⟩, show ((j - 1 : Nat) : Int) = (j : Int) - 1 from by omega]
    have u2 := use_link hm h3 hlt
    rw [List.map_cons, e]
    refine ⟨?_, ?_⟩
    · unfold endL; rw [u2]; exact ih.1
    · unfold costL; rw [u1, u2]
      simp only [show ¬ ((2 : Int) = 1) from by omega, if_false]
      unfold costOf
      simp only [Int.toNat_natCast, h1, hm]
      rw [ih.2]
theorem Good.cost (hg : GV g) (hl : g.ls[k]? = some l) (h : Good g k l y x S) (hx : Nd g x) (hy : Nd g y) : 0 ≤ D (Wo g k) x y ∧ D (Wo g k) x y ≤ costL g x S := by
  have hw := wo_gv hg k
  have hyw : Nd (Wo g k) y := hy
  induction h with
  | nil => rw [D_self hw hyw]; exact ⟨Int.le_refl _, Int.le_refl _⟩
  | node h1 h2 h3 h4 ih =>
    have hD := safe_D hg hl h1 h2 h3
    have h5 := ih h2
    have h6 := D_tri hw (show Nd (Wo g k) _ from h1) (show Nd (Wo g k) _ from h2) hyw (by rw [hD]; exact h3.1) h5.1
    refine ⟨h6.1, ?_⟩
    unfold costL
    rw [use_node ⟨h2, h3.1⟩]
    simp only [if_true]
    omega
  | link h1 h2 h3 h4 ih =>
    rename_i x z j m S
    have hm : m ∈ (Wo g k).ls := wo_mem.2 ⟨j, h2, h1⟩
    have e : Ed (Wo g k) x z m.c := ⟨m, hm, rfl, h3⟩
    obtain ⟨hx', hz, hc, _⟩ := e.nd hw
    have h5 := ih hz
    have h7 := D_edge hw hx' e (by rw [D_self hw hx']; exact Int.le_refl _)
    rw [D_self hw hx'] at h7
    have h6 := D_tri hw hx' hz hyw h7.1 h5.1
    refine ⟨h6.1, ?_⟩
    unfold costL
    rw [use_link h1 h3 (hg.lv (List.mem_of_getElem? h1)).2.2.1]
    simp only [show ¬ ((2 : Int) = 1) from by omega, if_false]
    unfold costOf
    simp only [Int.toNat_natCast, h1]
    omega
end
/-- A safe node needs no detour. -/
theorem Gd.short {g : Gr} {l : Lk} {P : List Int} {S : List Lb} (h : Gd g l P 0 S) {x y : Int} (h0 : P[0]? = some x) (h1 : P[P.length - 1]? = some y) (h2 : 2 ≤ P.length) :
    (Sf g l x y → S = [⟨1, y⟩]) ∧ (¬ Sf g l x y → 1 < S.length ∨ ∃ b T, S = b :: T ∧ b.k = 2) := by
  cases h with
  | done h3 => omega
  | node k1 k2 k3 k4 k5 k6 =>
    rename_i e a b S
    rw [h0] at k2
    cases k2
    have he := get_lt k3
    refine ⟨fun hs => ?_, fun hs => ?_⟩
    · have : e = P.length - 1 := by
        apply Classical.byContradiction
        intro hne
        exact k5 (P.length - 1) y (by omega) h1 hs
      subst this
      rw [k3] at h1
      cases h1
      cases k6 with
      | done _ => rfl
      | node q1 q2 q3 => have := get_lt q3; omega
      | link q1 q2 => have := get_lt q2; omega
    · left
      have : e ≠ P.length - 1 := fun he' => by
        subst he'
        rw [k3] at h1
        cases h1
        exact hs k4
      cases k6 with
      | done q => omega
      | node => simp
      | link => simp
  | link k1 k2 k3 k4 =>
    rw [h0] at k1
    cases k1
    refine ⟨fun hs => absurd hs (k3 _ _ (by omega) h1), fun _ => .inr ⟨_, _, rfl, rfl⟩⟩
end Go.Proofs.Ytbhkjeicogjfbaa
