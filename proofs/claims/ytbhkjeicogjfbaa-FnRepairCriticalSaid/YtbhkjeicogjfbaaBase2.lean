/- More small laws on memory. Conditions: none. -/
import Derived.Test.YtbhkjeicogjfbaaBase
namespace Go.Proofs.Ytbhkjeicogjfbaa
open Go.RowKit

theorem add_off (b off n : Nat) : (⟨b, off, none⟩ : Addr).add n = ⟨b, off + n, none⟩ := by
  unfold Addr.add
  split
  · rename_i h; subst h; rfl
  · rfl
/-- The rows of a list, cell by cell. -/
theorem RowsAt.flat {α : Type} {enc : α → List Value} {s : Nat} (hs : ∀ x, (enc x).length = s) {w : World} {b off : Nat} {l : List α} (h : RowsAt enc s w b off l) : ∀ j u, (l.flatMap enc)[j]? = some u → w.cell? ((⟨b, off, none⟩ : Addr).add j) = some u := by
  intro j u hu
  have hj : j < l.length * s := by rw [← flat_len hs]; exact get_lt hu
  have hs0 : 0 < s := by
    rcases Nat.eq_zero_or_pos s with h0 | h0
    · subst h0; simp at hj
    · exact h0
  have hi : j / s < l.length := Nat.div_lt_of_lt_mul (by rw [Nat.mul_comm]; exact hj)
  have hjs : j % s < (enc l[j / s]).length := by rw [hs]; exact Nat.mod_lt _ hs0
  have hkk : j / s * s + j % s = j := by rw [Nat.mul_comm]; exact Nat.div_add_mod j s
  have h1 := flat_get hs (List.getElem?_eq_getElem hi) (List.getElem?_eq_getElem hjs)
  rw [hkk, hu] at h1
  have h2 := h (j / s) _ (List.getElem?_eq_getElem hi) (j % s) u (by rw [List.getElem?_eq_getElem hjs]; exact h1.symm)
  rw [add_off, ← hkk, ← Nat.add_assoc]
  exact h2
theorem own_fresh {α : Type} {enc : α → List Value} {s : Nat} (w : World) (e : TypeId) : Own enc e s (w.alloc (.cells #[] e)) w.heap.size (.slice (some ⟨w.heap.size, 0, none⟩) 0 0) [] :=
  World.ownsRow_made w #[] 0 (Nat.le_refl _) (by decide) (by simp)
theorem flat_one {α : Type} {enc : α → List Value} (h : ∀ x, ∀ u ∈ enc x, u.oneCell' = true) (l : List α) : ∀ u ∈ l.flatMap enc, u.oneCell' = true := by
  intro u hu
  obtain ⟨x, _, hx⟩ := List.mem_flatMap.1 hu
  exact h x u hx
/-- The cells of a slice that is to be appended. -/
theorem SlR.news {α : Type} {enc : α → List Value} {s : Nat} (hs : ∀ x, (enc x).length = s) {w : World} {ad : Addr} {n cap : Nat} {l : List α} (h : SlR enc s w w.heap.size (.slice (some ad) n cap) l) (W : World) (hW : Below w.heap.size w W) :
    ∀ j u, (l.flatMap enc)[j]? = some u → W.cell? (ad.add j) = some u := by
  intro j u hu
  obtain ⟨A, cp, h1, _, hr⟩ := h
  injection h1 with h1
  subst h1
  have hj : 0 < l.length := by
    rcases Nat.eq_zero_or_pos l.length with h | h
    · rw [List.eq_nil_of_length_eq_zero h] at hu; simp at hu
    · exact h
  obtain ⟨b, off, h1, hb, hrow⟩ := hr hj
  injection h1 with h1
  subst h1
  have := hrow.flat hs j u hu
  exact (hW.cell (by rw [add_off]; exact hb)).trans this
/-- A slice without an address is empty. -/
theorem SlR.none_nil {α : Type} {enc : α → List Value} {s : Nat} {w : World} {B n cap : Nat} {l : List α} (h : SlR enc s w B (.slice none n cap) l) : l = [] := by
  obtain ⟨A, cp, h1, _, hr⟩ := h
  injection h1 with h1
  subst h1
  apply List.eq_nil_of_length_eq_zero
  rcases Nat.eq_zero_or_pos l.length with h | h
  · exact h
  · obtain ⟨b, off, h1, _⟩ := hr h; cases h1
/-- The rows of an owned slice. -/
theorem Own.rows {α : Type} {enc : α → List Value} {e s base g n cap : Nat} (hs : ∀ x, (enc x).length = s) {w : World} {l : List α} (h : Own enc e s w base (.slice (some ⟨g, 0, none⟩) n cap) l) (hn : 0 < l.length) : RowsAt enc s w g 0 l := by
  obtain ⟨A, cp, h1, _, h2⟩ := h.slr hs
  obtain ⟨b, off, h3, _, h4⟩ := h2 hn
  injection h1 with h1
  rw [← h1] at h3
  injection h3 with h3
  injection h3 with h3 h5
  subst h3
  subst h5
  exact h4

/-! ### A list of which the first k elements have been turned -/
def upTo {α : Type} (f : α → α) (cs : List α) (k : Nat) : List α := (cs.take k).map f ++ cs.drop k
section
variable {α : Type} {f : α → α} {cs : List α}
theorem upTo_zero (f : α → α) (cs : List α) : upTo f cs 0 = cs := by simp [upTo]
theorem upTo_all (f : α → α) (cs : List α) {k : Nat} (h : cs.length ≤ k) : upTo f cs k = cs.map f := by
  unfold upTo
  rw [List.take_of_length_le h, List.drop_eq_nil_of_le h, List.append_nil]
theorem upTo_len (f : α → α) (cs : List α) (k : Nat) : (upTo f cs k).length = cs.length := by
  unfold upTo
  simp only [List.length_append, List.length_map, List.length_take, List.length_drop]
  omega
theorem upTo_get {k : Nat} {c : α} (h : cs[k]? = some c) : (upTo f cs k)[k]? = some c := by
  unfold upTo
  have hk := get_lt h
  rw [List.getElem?_append_right (by simp; omega)]
  simp only [List.length_map, List.length_take]
  rw [Nat.min_eq_left (by omega), Nat.sub_self, List.getElem?_drop, Nat.add_zero]
  exact h
theorem upTo_set {k : Nat} {c : α} (h : cs[k]? = some c) : (upTo f cs k).set k (f c) = upTo f cs (k + 1) := by
  have hk := get_lt h
  unfold upTo
  rw [List.set_append_right _ _ (by simp; omega)]
  simp only [List.length_map, List.length_take]
  rw [Nat.min_eq_left (by omega), Nat.sub_self, List.drop_eq_getElem_cons hk, List.set_cons_zero, List.take_add_one, h]
  simp
end
end Go.Proofs.Ytbhkjeicogjfbaa
