/- Drawing a graph, a node and a link. Conditions: bytes. -/
import Derived.Test.YtenfdekjnelkoaaDrawS
namespace Go.Proofs.Ytenfdekjnelkoaa
open Go.RowKit

def DrawQPost (w : World) (e : Ending) (w' : World) : Prop :=
  ∃ (v : Value) (gr : Gr) (f k : Int), e = .returned (.tuple #[v, .int .i64 f, .int .i64 k]) ∧ OwnG w' w.heap.size v gr ∧ gr.ls.length ≤ 15 ∧ Below w.heap.size w w'
theorem OwnG.only {w w' : World} {base g : Nat} {v : Value} {gr : Gr} (h : OwnG w base v gr) (hg : w.grownBy w' (some g)) (hb : g < base) : OwnG w' base v gr := by
  obtain ⟨v2, rfl, h2⟩ := h
  exact ⟨v2, rfl, h2.only hg hb⟩
end Go.Proofs.Ytenfdekjnelkoaa
