/- A list of candidates, or of bytes, among a law's arguments, opened. Conditions: none. -/
import Derived.Test.YtkldfjlgphapeaaOpen
import Derived.Test.YtkldfjlgphapeaaCand
namespace Go.Proofs.Ytkldfjlgphapeaa
open Go.RowKit Go.ChangeShapes Go.WideShapes Go.Deep

section
variable {H : Type} {enc : TypeId × Value → H} {w : World} {base : Nat} {spare : Nat → Bool} {held : Bool}
theorem open_cands {fuel : Nat} {v : Value} {x : DataW H × List MemPlace} (h : DataW.trod enc Try.prog w base spare held fuel 22 [v] = some x) :
    ∃ cs : List Cand, SlR cc 3 w w.heap.size v cs ∧ cs.length ≤ 9223372036854775807 := by
  obtain ⟨A, len, cap, g, rfl, hl, hm, hr⟩ := open_rows (fs := _) Try.underlying22 Try.underlying42 (by kernel_rfl) (by kernel_rfl) (by decide)
    (fun j f hf => by match j, hf with
                      | 0, hf => cases hf; exact Try.underlying3
                      | 1, hf => cases hf; exact Try.underlying3
                      | 2, hf => cases hf; exact Try.underlying3) h
  have hlen : ((List.range len).map fun i => (⟨g i 0, g i 1, g i 2⟩ : Cand)).length = len := by simp
  refine ⟨(List.range len).map fun i => ⟨g i 0, g i 1, g i 2⟩, ⟨A, cap, by rw [hlen], by rw [hlen]; exact hl, fun hp => ?_⟩, by rw [hlen]; exact hm⟩
  rw [hlen] at hp
  obtain ⟨b, off, rfl, hb, hc⟩ := hr hp
  refine ⟨b, off, rfl, hb, fun i c hi j u hu => ?_⟩
  have hil : i < len := by have := get_lt hi; rw [hlen] at this; exact this
  rw [List.getElem?_map, List.getElem?_range hil] at hi
  cases hi
  match j, hu with
  | 0, hu => cases hu; exact hc i 0 hil (by decide)
  | 1, hu => cases hu; exact hc i 1 hil (by decide)
  | 2, hu => cases hu; exact hc i 2 hil (by decide)

end
end Go.Proofs.Ytkldfjlgphapeaa
