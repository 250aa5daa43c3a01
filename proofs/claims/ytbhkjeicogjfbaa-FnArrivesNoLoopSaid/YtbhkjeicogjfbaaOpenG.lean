/- A graph among a law's arguments, opened. Conditions: none. -/
import Derived.Test.YtbhkjeicogjfbaaOpen
import Derived.Test.YtbhkjeicogjfbaaLink
namespace Go.Proofs.Ytbhkjeicogjfbaa
open Go.RowKit Go.ChangeShapes Go.WideShapes Go.Deep Go.Joins

section
variable {H : Type} {enc : TypeId × Value → H} {w : World} {base : Nat} {spare : Nat → Bool} {held : Bool}
theorem open_links {fuel : Nat} {v : Value} {x : DataW H × List MemPlace} (h : DataW.trod enc Try.prog w base spare held fuel 39 [v] = some x) :
    ∃ cs : List Lk, SlR lc 3 w w.heap.size v cs ∧ cs.length ≤ 9223372036854775807 := by
  obtain ⟨A, len, cap, g, rfl, hl, hm, hr⟩ := open_rows (fs := _) Try.underlying39 Try.underlying105 (by kernel_rfl) (by kernel_rfl) (by decide)
    (fun j f hf => by match j, hf with
                      | 0, hf => cases hf; exact Try.underlying3
                      | 1, hf => cases hf; exact Try.underlying3
                      | 2, hf => cases hf; exact Try.underlying3) h
  have hlen : ((List.range len).map fun i => (⟨g i 0, g i 1, g i 2⟩ : Lk)).length = len := by simp
  refine ⟨(List.range len).map fun i => ⟨g i 0, g i 1, g i 2⟩, ⟨A, cap, by rw [hlen], by rw [hlen]; exact hl, fun hp => ?_⟩, by rw [hlen]; exact hm⟩
  rw [hlen] at hp
  obtain ⟨b, off, rfl, hb, hc⟩ := hr hp
  refine ⟨b, off, rfl, hb, fun i c hi j u hu => ?_⟩
  have hil : i < len := by have := get_lt hi; rw [hlen] at this; exact this
  rw [List.getElem?_map, List.getElem?_range hil] at hi
  cases hi
  match j, hu with
  | 0, hu => cases hu; exact hc i 0 hil (by decide)
  | 1, hu => cases hu; exact hc i 1 hil (by decide)
  | 2, hu => cases hu; exact hc i 2 hil (by decide)
theorem open_intlist {fuel : Nat} {v : Value} {x : DataW H × List MemPlace} (h : DataW.trod enc Try.prog w base spare held fuel 28 [v] = some x) :
    ∃ cs : List Int, SlR ic 1 w w.heap.size v cs ∧ cs.length ≤ 9223372036854775807 := by
  obtain ⟨A, cap, l, rfl, hl, hm, hw, hr⟩ := open_row Try.underlying28 Try.underlying3 (by kernel_rfl) h
  refine ⟨l, ⟨A, cap, rfl, hl, fun hp => ?_⟩, hm⟩
  obtain ⟨b, off, rfl, hb, hc⟩ := hr hp
  refine ⟨b, off, rfl, hb, fun i n hi j u hu => ?_⟩
  match j, hu with
  | 0, hu => cases hu; rw [Nat.mul_one, Nat.add_zero]; exact hc i n hi
set_option maxRecDepth 100000 in
theorem open_graph {b0 : Nat} {v : Value} {d : DataW H} {p : List MemPlace} (hval : Value.okWide Try.prog w .any b0 41 v) (h : DataW.Trod enc Try.prog w base spare held 41 v d p) :
    ∃ g : Gr, GrR w w.heap.size v g ∧ g.ls.length ≤ 9223372036854775807 := by
  obtain ⟨v0, v1, y0, y1, n, rfl, -, -, h0, h1⟩ := open_agg2 Try.underlying41 (by kernel_rfl) (by kernel_rfl) hval h
  obtain ⟨a, ha, _, wa⟩ := DataW.trod_int Try.underlying3 h0
  obtain ⟨ls, hr, hm⟩ := open_links h1
  cases ha
  exact ⟨⟨a, ls⟩, ⟨_, rfl, hr⟩, hm⟩
end
end Go.Proofs.Ytbhkjeicogjfbaa
