/- Neighbours in plain Lean; insertion sort of ints. Conditions: the graph is valid. -/
import Derived.Test.YtbhkjeicogjfbaaStk
import Derived.Test.YtbhkjeicogjfbaaOrd
namespace Go.Proofs.Ytbhkjeicogjfbaa

/-! ### Insertion sort -/
def Srt1 (L : List Int) (i : Nat) (M : List Int) : Prop := ∃ P, M = P ++ L.drop i ∧ P.Perm (L.take i) ∧ P.Pairwise (· ≤ ·)
def Ins1 (L : List Int) (i j : Nat) (M : List Int) : Prop :=
  ∃ A B x, L[i]? = some x ∧ M = A ++ x :: (B ++ L.drop (i + 1)) ∧ A.length = j ∧ (A ++ B).Perm (L.take i) ∧ (A ++ B).Pairwise (· ≤ ·) ∧ ∀ b, b ∈ B → x < b
section
variable {L M : List Int} {i j : Nat}
theorem Ins1.perm (h : Ins1 L i j M) : M.Perm L := by
  obtain ⟨A, B, x, hx, rfl, _, hp, _⟩ := h
  have hi := get_lt hx
  have hx' : L[i] = x := by rw [List.getElem?_eq_getElem hi] at hx; injection hx
  have h1 : (A ++ x :: (B ++ L.drop (i + 1))).Perm (x :: ((A ++ B) ++ L.drop (i + 1))) := by
    rw [List.append_assoc]; exact List.perm_middle
  have h2 : (x :: ((A ++ B) ++ L.drop (i + 1))).Perm (x :: (L.take i ++ L.drop (i + 1))) := (hp.append_right _).cons x
  have h3 : (x :: (L.take i ++ L.drop (i + 1))).Perm (L.take i ++ x :: L.drop (i + 1)) := List.perm_middle.symm
  have h4 : L.take i ++ x :: L.drop (i + 1) = L := by rw [← hx', ← List.drop_eq_getElem_cons hi, List.take_append_drop]
  rw [h4] at h3
  exact h1.trans (h2.trans h3)
theorem Ins1.len (h : Ins1 L i j M) : M.length = L.length := h.perm.length_eq
theorem srt1_start (L : List Int) : Srt1 L 1 L := by
  refine ⟨L.take 1, (List.take_append_drop 1 L).symm, List.Perm.refl _, ?_⟩
  cases L with
  | nil => exact .nil
  | cons a t => simp
theorem srt1_end (h : Srt1 L i M) (hi : L.length ≤ i) : M.Perm L ∧ M.Pairwise (· ≤ ·) := by
  obtain ⟨P, rfl, hp, hs⟩ := h
  rw [List.drop_eq_nil_of_le hi, List.append_nil]
  rw [List.take_of_length_le hi] at hp
  exact ⟨hp, hs⟩
theorem ins1_start (h : Srt1 L i M) (hi : i < L.length) : Ins1 L i i M := by
  obtain ⟨P, rfl, hp, hs⟩ := h
  refine ⟨P, [], L[i], List.getElem?_eq_getElem hi, ?_, ?_, by rw [List.append_nil]; exact hp, by rw [List.append_nil]; exact hs, fun b hb => by cases hb⟩
  · rw [List.drop_eq_getElem_cons hi, List.nil_append]
  · have := hp.length_eq; rw [List.length_take] at this; omega
theorem ins1_stop (h : Ins1 L i j M) (hz : ∀ z x, 0 < j → M[j - 1]? = some z → M[j]? = some x → ¬ x < z) : Srt1 L (i + 1) M := by
  obtain ⟨A, B, x, hx, rfl, hj, hp, hs, hb⟩ := h
  refine ⟨A ++ x :: B, by simp, ?_, ?_⟩
  · have h1 : (A ++ x :: B).Perm (x :: (A ++ B)) := List.perm_middle
    have h2 : (x :: (A ++ B)).Perm (x :: L.take i) := hp.cons x
    have h3 : (x :: L.take i).Perm (L.take i ++ [x]) := by
      have := (List.perm_append_comm (l₁ := [x]) (l₂ := L.take i)); simpa using this
    have h4 : L.take (i + 1) = L.take i ++ [x] := by rw [List.take_add_one, hx]; rfl
    rw [h4]
    exact h1.trans (h2.trans h3)
  · obtain ⟨hA, hB, hAB⟩ := List.pairwise_append.1 hs
    have hlast : ∀ a, a ∈ A → a ≤ x := by
      rcases Nat.eq_zero_or_pos j with h0 | h0
      · have : A = [] := List.eq_nil_of_length_eq_zero (by omega)
        subst this
        intro a ha; cases ha
      · obtain ⟨A', z, rfl⟩ : ∃ A' z, A = A' ++ [z] := by
          have hne : A ≠ [] := fun h => by rw [h] at hj; simp at hj; omega
          exact ⟨A.dropLast, A.getLast hne, (List.dropLast_concat_getLast hne).symm⟩
        have hl : A'.length + 1 = j := by simpa using hj
        have h1 := hz z x h0 (by
          rw [List.append_assoc, List.getElem?_append_right (by omega)]
          simp [show j - 1 - A'.length = 0 from by omega]) (by
          rw [List.getElem?_append_right (by simp; omega)]
          simp [show j - (A'.length + 1) = 0 from by omega])
        intro a haA
        rcases List.mem_append.1 haA with h | h
        · have h2 : a ≤ z := (List.pairwise_append.1 hA).2.2 a h z (by simp)
          omega
        · simp at h; subst h; omega
    refine List.pairwise_append.2 ⟨hA, List.pairwise_cons.2 ⟨fun b hb' => by have := hb b hb'; omega, hB⟩, fun a haA y hy => ?_⟩
    rcases List.mem_cons.1 hy with rfl | hy
    · exact hlast a haA
    · exact hAB a haA y hy
theorem ins1_at (h : Ins1 L i j M) (h0 : 0 < j) : ∃ z x, M[j - 1]? = some z ∧ M[j]? = some x ∧ (x < z → Ins1 L i (j - 1) ((M.set j z).set (j - 1) x)) := by
  obtain ⟨A, B, x, hx, rfl, hl, hp, hs, hb⟩ := h
  obtain ⟨A', z, rfl⟩ : ∃ A' z, A = A' ++ [z] := by
    have hne : A ≠ [] := fun h => by rw [h] at hl; simp at hl; omega
    exact ⟨A.dropLast, A.getLast hne, (List.dropLast_concat_getLast hne).symm⟩
  have hl' : A'.length + 1 = j := by simpa using hl
  have e1 : (A' ++ [z]) ++ x :: (B ++ L.drop (i + 1)) = A' ++ z :: x :: (B ++ L.drop (i + 1)) := by simp
  refine ⟨z, x, ?_, ?_, fun hd => ⟨A', z :: B, x, hx, ?_, by omega, ?_, ?_, ?_⟩⟩
  · rw [e1, List.getElem?_append_right (by omega), show j - 1 - A'.length = 0 from by omega]; rfl
  · rw [e1, List.getElem?_append_right (by omega), show j - A'.length = 1 from by omega]; rfl
  · rw [e1, List.set_append_right _ _ (by omega), show j - A'.length = 1 from by omega, List.set_append_right _ _ (by omega), show j - 1 - A'.length = 0 from by omega]
    rfl
  · simpa using hp
  · simpa using hs
  · intro b hb'
    rcases List.mem_cons.1 hb' with rfl | hb'
    · exact hd
    · exact hb b hb'
end

/-! ### Neighbours -/
/-- m is a neighbour of n over the link l. -/
def othL (l : Lk) (n : Int) : Option Int := if n = l.a then some l.b else if n = l.b then some l.a else none
theorem othL_iff {l : Lk} {n m : Int} (h : l.a < l.b) : othL l n = some m ↔ Jn l n m := by
  unfold othL Jn
  split
  · rename_i h1
    subst h1
    constructor
    · intro h2; injection h2 with h2; exact .inl ⟨rfl, h2⟩
    · rintro (⟨_, h2⟩ | ⟨h2, h3⟩)
      · rw [h2]
      · omega
  · rename_i h1
    split
    · rename_i h2
      subst h2
      constructor
      · intro h3; injection h3 with h3; exact .inr ⟨h3, rfl⟩
      · rintro (⟨h3, _⟩ | ⟨h3, _⟩)
        · exact absurd h3.symm h1
        · rw [h3]
    · rename_i h2
      constructor
      · intro h3; cases h3
      · rintro (⟨h3, _⟩ | ⟨_, h3⟩)
        · exact absurd h3.symm h1
        · exact absurd h3.symm h2
/-- The neighbours of n over the first k links, in the links' order. -/
def nbTo (g : Gr) (n : Int) (k : Nat) : List Int := (g.ls.take k).filterMap fun l => othL l n
def Nbr (g : Gr) (n m : Int) : Prop := ∃ l, l ∈ g.ls ∧ Jn l n m
noncomputable def nbL (g : Gr) (n : Int) : List Int := selTo (Nbr g n) g.n.toNat
section
variable {g : Gr} {n m : Int} {k : Nat} {l : Lk}
theorem nbTo_some (hl : g.ls[k]? = some l) (h : othL l n = some m) : nbTo g n (k + 1) = nbTo g n k ++ [m] := by
  unfold nbTo
  rw [List.take_add_one, hl]
  simp [List.filterMap_append, h]
theorem nbTo_none (hl : g.ls[k]? = some l) (h : othL l n = none) : nbTo g n (k + 1) = nbTo g n k := by
  unfold nbTo
  rw [List.take_add_one, hl]
  simp [List.filterMap_append, h]
theorem nbTo_mem (hg : GV g) : m ∈ nbTo g n g.ls.length ↔ Nbr g n m := by
  unfold nbTo Nbr
  rw [List.take_length, List.mem_filterMap]
  constructor
  · rintro ⟨l, hl, h⟩; exact ⟨l, hl, (othL_iff (hg.lv hl).2.2.1).1 h⟩
  · rintro ⟨l, hl, h⟩; exact ⟨l, hl, (othL_iff (hg.lv hl).2.2.1).2 h⟩
theorem Nbr.nd (hg : GV g) (h : Nbr g n m) : Nd g n ∧ Nd g m := by
  obtain ⟨l, hl, h⟩ := h
  have hv := hg.lv hl
  rcases h with ⟨rfl, rfl⟩ | ⟨rfl, rfl⟩
  · exact ⟨hv.1, hv.2.1⟩
  · exact ⟨hv.2.1, hv.1⟩
theorem nbTo_nodup (hg : GV g) : (nbTo g n g.ls.length).Nodup := by
  unfold nbTo
  rw [List.take_length, List.Nodup, List.pairwise_filterMap, List.pairwise_iff_getElem]
  intro i j hi hj hij a ha b hb he
  subst he
  have h1 := (othL_iff (hg.lv (List.getElem_mem hi)).2.2.1).1 ha
  have h2 := (othL_iff (hg.lv (List.getElem_mem hj)).2.2.1).1 hb
  have v1 := (hg.lv (List.getElem_mem hi)).2.2.1
  have v2 := (hg.lv (List.getElem_mem hj)).2.2.1
  unfold Jn at h1 h2
  have := hg.place (List.getElem?_eq_getElem hi) (List.getElem?_eq_getElem hj) (by omega) (by omega)
  omega
theorem nbTo_le (g : Gr) (n : Int) (k : Nat) : (nbTo g n k).length ≤ g.ls.length := by
  unfold nbTo
  refine Nat.le_trans (List.length_filterMap_le _ _) ?_
  rw [List.length_take]; omega
theorem nb_sorted (hg : GV g) {M : List Int} (h : M.Perm (nbTo g n g.ls.length) ∧ M.Pairwise (· ≤ ·)) : M = nbL g n := by
  have hn := hg.n
  have hnd : M.Nodup := h.1.nodup_iff.2 (nbTo_nodup hg)
  have hlt : M.Pairwise (· < ·) := by
    have := h.2.and hnd
    exact this.imp fun {a b} hab => by have h1 := hab.1; have h2 := hab.2; omega
  refine pw_ext (R := fun a b : Int => a < b) (fun a h => by omega) (fun a b h h' => by omega) hlt (selTo_asc _ _) fun x => ?_
  rw [h.1.mem_iff, nbTo_mem hg, nbL, selTo_mem]
  refine ⟨fun h => ⟨?_, h⟩, fun h => h.2⟩
  have := (h.nd hg).2
  unfold Nd at this
  omega
/-- The link between neighbours. -/
theorem nbr_lnk (hg : GV g) : Nbr g n m ↔ 0 ≤ lnk g n m := by
  constructor
  · rintro ⟨l, hl, h⟩
    obtain ⟨j, hj⟩ := List.mem_iff_getElem?.1 hl
    rw [lnk_jn hg hj h]
    omega
  · intro h
    rcases lnk_cases g n m with ⟨h1, _⟩ | ⟨j, l, h1, h2, h3⟩
    · omega
    · exact ⟨l, List.mem_of_getElem? h2, (isL_iff (hg.lv (List.mem_of_getElem? h2)).2.2.1).1 h3⟩
theorem lnk_get (hg : GV g) (h : Nbr g n m) : ∃ (j : Nat) (l : Lk), lnk g n m = j ∧ g.ls[j]? = some l ∧ Jn l n m := by
  obtain ⟨l, hl, h⟩ := h
  obtain ⟨j, hj⟩ := List.mem_iff_getElem?.1 hl
  exact ⟨j, l, lnk_jn hg hj h, hj, h⟩
/-- A next hop is a neighbour over whose link the distance fits. -/
theorem hp_iff (hg : GV g) {y : Int} {j : Nat} (hl : g.ls[j]? = some l) (hj : Jn l n m) : Hp g y n m ↔ 0 ≤ D g y m ∧ D g y m + l.c = D g y n := by
  have hlm := List.mem_of_getElem? hl
  constructor
  · rintro ⟨c, e, h1, h2⟩
    have e' : Ed g n m l.c := ⟨l, hlm, rfl, hj⟩
    have := e.uniq hg e'
    subst this
    exact ⟨h1, h2⟩
  · rintro ⟨h1, h2⟩
    exact ⟨l.c, ⟨l, hlm, rfl, hj⟩, h1, h2⟩
theorem hp_nbr {y : Int} (h : Hp g y n m) : Nbr g n m := by
  obtain ⟨c, ⟨l, hl, _, hj⟩, _⟩ := h
  exact ⟨l, hl, hj⟩
end
end Go.Proofs.Ytbhkjeicogjfbaa
