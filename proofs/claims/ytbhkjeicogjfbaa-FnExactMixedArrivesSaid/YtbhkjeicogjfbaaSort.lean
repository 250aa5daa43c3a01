/- Insertion sort in plain Lean: a stable sort of ascending numbers by descending distance. Conditions: none. -/
import Derived.Test.YtbhkjeicogjfbaaOrd
namespace Go.Proofs.Ytbhkjeicogjfbaa

/-- a stands ahead of b: farther, or as far and smaller. -/
def Bd2 (d : Int → Int) (a b : Int) : Prop := d b < d a ∨ (d a = d b ∧ a < b)
theorem Bd2.trans {d : Int → Int} {a b c : Int} (h : Bd2 d a b) (h' : Bd2 d b c) : Bd2 d a c := by unfold Bd2 at *; omega
/-- The first i numbers of M are sorted. -/
def Srt (d : Int → Int) (L : List Int) (i : Nat) (M : List Int) : Prop := ∃ P, M = P ++ L.drop i ∧ P.Perm (L.take i) ∧ P.Pairwise (Bd2 d)
/-- Number i of L has come to place j of M. -/
def Ins (d : Int → Int) (L : List Int) (i j : Nat) (M : List Int) : Prop :=
  ∃ A B x, L[i]? = some x ∧ M = A ++ x :: (B ++ L.drop (i + 1)) ∧ A.length = j ∧ (A ++ B).Perm (L.take i) ∧ (A ++ B).Pairwise (Bd2 d) ∧ ∀ b, b ∈ B → d b < d x
section
variable {d : Int → Int} {L M : List Int} {i j : Nat}
theorem Srt.len (h : Srt d L i M) : M.length = L.length := by
  obtain ⟨P, rfl, hp, _⟩ := h
  have := hp.length_eq
  rw [List.length_append, this, ← List.length_append, List.take_append_drop]
theorem Ins.perm (h : Ins d L i j M) : M.Perm L := by
  obtain ⟨A, B, x, hx, rfl, _, hp, _⟩ := h
  have hi := get_lt hx
  have hx' : L[i] = x := by rw [List.getElem?_eq_getElem hi] at hx; injection hx
  have h1 : (A ++ x :: (B ++ L.drop (i + 1))).Perm (x :: ((A ++ B) ++ L.drop (i + 1))) := by
    rw [List.append_assoc]; exact List.perm_middle
  have h2 : (x :: ((A ++ B) ++ L.drop (i + 1))).Perm (x :: (L.take i ++ L.drop (i + 1))) := (hp.append_right _).cons x
  have h3 : (x :: (L.take i ++ L.drop (i + 1))).Perm (L.take i ++ x :: L.drop (i + 1)) := List.perm_middle.symm
  have h4 : L.take i ++ x :: L.drop (i + 1) = L := by rw [← hx', ← List.drop_eq_getElem_cons hi, List.take_append_drop]
  rw [h4] at h3
  exact h1.trans (h2.trans h3)
theorem Ins.len (h : Ins d L i j M) : M.length = L.length := h.perm.length_eq
theorem srt_start (d : Int → Int) (L : List Int) : Srt d L 1 L := by
  refine ⟨L.take 1, (List.take_append_drop 1 L).symm, List.Perm.refl _, ?_⟩
  cases L with
  | nil => exact .nil
  | cons a t => simp
theorem srt_end (h : Srt d L i M) (hi : L.length ≤ i) : M.Perm L ∧ M.Pairwise (Bd2 d) := by
  obtain ⟨P, rfl, hp, hs⟩ := h
  rw [List.drop_eq_nil_of_le hi, List.append_nil]
  rw [List.take_of_length_le hi] at hp
  exact ⟨hp, hs⟩
theorem ins_start (h : Srt d L i M) (hi : i < L.length) : Ins d L i i M := by
  obtain ⟨P, rfl, hp, hs⟩ := h
  refine ⟨P, [], L[i], List.getElem?_eq_getElem hi, ?_, ?_, by rw [List.append_nil]; exact hp, by rw [List.append_nil]; exact hs, fun b hb => by cases hb⟩
  · rw [List.drop_eq_getElem_cons hi, List.nil_append]
  · have := hp.length_eq; rw [List.length_take] at this; omega
/-- The number stands where it belongs. -/
theorem ins_stop (ha : L.Pairwise (· < ·)) (h : Ins d L i j M) (hz : ∀ z x, 0 < j → M[j - 1]? = some z → M[j]? = some x → ¬ d z < d x) : Srt d L (i + 1) M := by
  obtain ⟨A, B, x, hx, rfl, hj, hp, hs, hb⟩ := h
  have hi := get_lt hx
  have hx' : L[i] = x := by rw [List.getElem?_eq_getElem hi] at hx; injection hx
  refine ⟨A ++ x :: B, by simp, ?_, ?_⟩
  · have h1 : (A ++ x :: B).Perm (x :: (A ++ B)) := List.perm_middle
    have h2 : (x :: (A ++ B)).Perm (x :: L.take i) := hp.cons x
    have h3 : (x :: L.take i).Perm (L.take i ++ [x]) := by
      have := (List.perm_append_comm (l₁ := [x]) (l₂ := L.take i)); simpa using this
    have h4 : L.take (i + 1) = L.take i ++ [x] := by rw [List.take_add_one, hx]; rfl
    rw [h4]
    exact h1.trans (h2.trans h3)
  · obtain ⟨hA, hB, hAB⟩ := List.pairwise_append.1 hs
    have hlast : ∀ a, a ∈ A → Bd2 d a x := by
      rcases Nat.eq_zero_or_pos j with h0 | h0
      · have : A = [] := List.eq_nil_of_length_eq_zero (by omega)
        subst this
        intro a ha; cases ha
      · obtain ⟨A', z, rfl⟩ : ∃ A' z, A = A' ++ [z] := by
          have hne : A ≠ [] := fun h => by rw [h] at hj; simp at hj; omega
          exact ⟨A.dropLast, A.getLast hne, (List.dropLast_concat_getLast hne).symm⟩
        have hl : A'.length + 1 = j := by simpa using hj
        have h1 := hz z x h0 (by
          rw [List.append_assoc, List.getElem?_append_right (by omega)]
          simp [show j - 1 - A'.length = 0 from by omega]) (by
          rw [List.getElem?_append_right (by simp; omega)]
          simp [show j - (A'.length + 1) = 0 from by omega])
        have hzx : Bd2 d z x := by
          have hmem : z ∈ L.take i := hp.subset (by simp)
          obtain ⟨k, hk⟩ := List.mem_iff_getElem?.1 hmem
          have hki : k < i := by have := get_lt hk; rw [List.length_take] at this; omega
          rw [List.getElem?_take, if_pos hki] at hk
          have h2 := (List.pairwise_iff_getElem.1 ha) k i (by omega) hi hki
          rw [List.getElem?_eq_getElem (by omega)] at hk
          have h3 : L[k] = z := by injection hk
          rw [h3, hx'] at h2
          unfold Bd2
          omega
        intro a haA
        rcases List.mem_append.1 haA with h | h
        · exact ((List.pairwise_append.1 hA).2.2 a h z (by simp)).trans hzx
        · simp at h; subst h; exact hzx
    refine List.pairwise_append.2 ⟨hA, List.pairwise_cons.2 ⟨fun b hb' => .inl (hb b hb'), hB⟩, fun a haA y hy => ?_⟩
    rcases List.mem_cons.1 hy with rfl | hy
    · exact hlast a haA
    · exact hAB a haA y hy
theorem ins_at (h : Ins d L i j M) (h0 : 0 < j) : ∃ z x, M[j - 1]? = some z ∧ M[j]? = some x ∧ (d z < d x → Ins d L i (j - 1) ((M.set j z).set (j - 1) x)) := by
  obtain ⟨A, B, x, hx, rfl, hl, hp, hs, hb⟩ := h
  obtain ⟨A', z, rfl⟩ : ∃ A' z, A = A' ++ [z] := by
    have hne : A ≠ [] := fun h => by rw [h] at hl; simp at hl; omega
    exact ⟨A.dropLast, A.getLast hne, (List.dropLast_concat_getLast hne).symm⟩
  have hl' : A'.length + 1 = j := by simpa using hl
  have e1 : (A' ++ [z]) ++ x :: (B ++ L.drop (i + 1)) = A' ++ z :: x :: (B ++ L.drop (i + 1)) := by simp
  refine ⟨z, x, ?_, ?_, fun hd => ⟨A', z :: B, x, hx, ?_, by omega, ?_, ?_, ?_⟩⟩
  · rw [e1, List.getElem?_append_right (by omega), show j - 1 - A'.length = 0 from by omega]; rfl
  · rw [e1, List.getElem?_append_right (by omega), show j - A'.length = 1 from by omega]; rfl
  · rw [e1, List.set_append_right _ _ (by omega), show j - A'.length = 1 from by omega, List.set_append_right _ _ (by omega), show j - 1 - A'.length = 0 from by omega]
    rfl
  · simpa using hp
  · simpa using hs
  · intro b hb'
    rcases List.mem_cons.1 hb' with rfl | hb'
    · exact hd
    · exact hb b hb'
end
/-- A sorted selection is the right order. -/
theorem ord_of_sort {g : Gr} {l : Lk} {y : Int} (hg : GV g) {M : List Int} (h : M.Perm (selTo (fun x => Us g l x y) g.n.toNat) ∧ M.Pairwise (Bd2 (D g y))) : OrdL g l y M := by
  have hn := hg.n
  refine ⟨h.2.imp fun hab => hab, fun x => ?_⟩
  rw [h.1.mem_iff, selTo_mem]
  unfold Nd
  constructor
  · rintro ⟨h1, h2⟩; exact ⟨by omega, h2⟩
  · rintro ⟨h1, h2⟩; exact ⟨by omega, h2⟩
/-- The right order, where there is one. -/
noncomputable def ordOf (g : Gr) (l : Lk) (y : Int) : List Int := open Classical in if h : ∃ L, OrdL g l y L then h.choose else []
theorem ordOf_is {g : Gr} {l : Lk} {y : Int} {L : List Int} (h : OrdL g l y L) : ordOf g l y = L := by
  have he : ∃ L, OrdL g l y L := ⟨L, h⟩
  unfold ordOf
  rw [dif_pos he]
  exact he.choose_spec.uniq h
/-- The order up to distance F and, at F, up to node j. -/
structure OrdP (g : Gr) (l : Lk) (y F : Int) (j : Int) (L : List Int) : Prop where
  pw : L.Pairwise (Bf g y)
  mem : ∀ x, x ∈ L ↔ (Nd g x ∧ Us g l x y) ∧ (F < D g y x ∨ (D g y x = F ∧ x < j))
section
variable {g : Gr} {l : Lk} {y F j : Int} {L : List Int}
theorem OrdP.len (hg : GV g) (h : OrdP g l y F j L) : L.length ≤ 8 := by
  have hn := hg.n
  refine nodup_len (h.pw.imp fun hab he => by subst he; unfold Bf at hab; omega) fun x hx => ?_
  have := ((h.mem x).1 hx).1.1
  unfold Nd at this
  omega
theorem ordP_start (hg : GV g) (hy : Nd g y) (hF : g.n * 20 ≤ F) : OrdP g l y F 0 [] := by
  refine ⟨.nil, fun x => ⟨fun h => by (cases h), fun h => ?_⟩⟩
  have h1 := h.1.1
  have h2 := D_few hg hy h1
  have := hg.n
  unfold Nd at h1
  omega
theorem OrdP.yes (h : OrdP g l y F j L) (hd : D g y j = F) (hn : Nd g j) (hu : Us g l j y) : OrdP g l y F (j + 1) (L ++ [j]) := by
  refine ⟨List.pairwise_append.2 ⟨h.pw, by simp, fun a ha b hb => ?_⟩, fun x => ?_⟩
  · simp at hb
    subst hb
    have := ((h.mem a).1 ha).2
    unfold Bf
    omega
  · rw [List.mem_append, h.mem]
    constructor
    · rintro (⟨h1, h2⟩ | h1)
      · exact ⟨h1, by omega⟩
      · simp at h1; subst h1; exact ⟨⟨hn, hu⟩, .inr ⟨hd, by omega⟩⟩
    · rintro ⟨h1, h2⟩
      by_cases hx : x = j
      · right; simp [hx]
      · exact .inl ⟨h1, by omega⟩
theorem OrdP.no (h : OrdP g l y F j L) (hd : ¬ (D g y j = F ∧ Us g l j y)) : OrdP g l y F (j + 1) L := by
  refine ⟨h.pw, fun x => ?_⟩
  rw [h.mem]
  constructor
  · rintro ⟨h1, h2⟩; exact ⟨h1, by omega⟩
  · rintro ⟨h1, h2⟩
    refine ⟨h1, ?_⟩
    by_cases hx : x = j
    · subst hx; rcases h2 with h2 | h2
      · exact .inl h2
      · exact absurd ⟨h2.1, h1.2⟩ hd
    · omega
theorem OrdP.next (h : OrdP g l y F g.n L) : OrdP g l y (F - 1) 0 L := by
  refine ⟨h.pw, fun x => ?_⟩
  rw [h.mem]
  constructor
  · rintro ⟨h1, h2⟩
    have := h1.1
    unfold Nd at this
    exact ⟨h1, by omega⟩
  · rintro ⟨h1, h2⟩
    have := h1.1
    unfold Nd at this
    exact ⟨h1, by omega⟩
theorem OrdP.all (hg : GV g) (hl : l ∈ g.ls) (hy : Nd g y) (h : OrdP g l y 0 0 L) : OrdL g l y L := by
  refine ⟨h.pw, fun x => ?_⟩
  rw [h.mem]
  refine ⟨fun h1 => h1.1, fun h1 => ⟨h1, .inl ?_⟩⟩
  exact us_ne hg hl hy h1.1 (h1.2.symm hg hl h1.1 hy)
end
end Go.Proofs.Ytbhkjeicogjfbaa
