/- RepairSafe and RepairNeeded of the reference: the selected nodes, in order. Conditions: at most 1048576 links. -/
import Derived.Test.YtbhkjeicogjfbaaSafeW
namespace Go.Proofs.Ytbhkjeicogjfbaa
open Go.RowKit

/-- The list, if p holds. -/
noncomputable def okL (p : Prop) (l : List Int) : List Int := open Classical in if p then l else []
theorem okL_yes {p : Prop} (h : p) (l : List Int) : okL p l = l := if_pos h
theorem okL_no {p : Prop} (h : ¬ p) (l : List Int) : okL p l = [] := if_neg h
/-- Nodes, link and from are in order. -/
def Ok (g : Gr) (f k : Int) : Prop := GV g ∧ Ix g k ∧ Nd g f
noncomputable def safeL (g : Gr) (f k : Int) : List Int := okL (Ok g f k) (selTo (Sf g (lkOf g k) f) g.n.toNat)
noncomputable def needL (g : Gr) (f k : Int) : List Int := okL (Ok g f k) (selTo (Us g (lkOf g k) f) g.n.toNat)
theorem selTo_le (p : Int → Prop) (k : Nat) (h : k ≤ 8) : (selTo p k).length ≤ 8 := Nat.le_trans (selTo_len p k) h
end Go.Proofs.Ytbhkjeicogjfbaa
