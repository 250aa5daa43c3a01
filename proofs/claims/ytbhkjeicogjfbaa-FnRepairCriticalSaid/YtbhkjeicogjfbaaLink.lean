/- Links and graphs in memory. Conditions: none. -/
import Derived.Test.YtbhkjeicogjfbaaIn
import Derived.Test.YtbhkjeicogjfbaaBase2
import Derived.Test.YtbhkjeicogjfbaaApp
import Derived.Test.YtbhkjeicogjfbaaDist
namespace Go.Proofs.Ytbhkjeicogjfbaa
open Go.RowKit

def lc (l : Lk) : List Value := [.int .i64 l.a, .int .i64 l.b, .int .i64 l.c]
theorem lc_len (l : Lk) : (lc l).length = 3 := rfl
theorem lc_one (c : Lk) : ∀ u ∈ lc c, u.oneCell' = true := by
  intro u hu
  simp only [lc, List.mem_cons, List.not_mem_nil, or_false] at hu
  rcases hu with rfl | rfl | rfl <;> rfl
theorem ic_one (n : Int) : ∀ u ∈ ic n, u.oneCell' = true := by
  intro u hu
  simp only [ic, List.mem_cons, List.not_mem_nil, or_false] at hu
  subst hu
  rfl
theorem linkAt {w : World} {b off k : Nat} {cs : List Lk} {c : Lk} (h : RowsAt lc 3 w b off cs) (hk : cs[k]? = some c) :
    w.cell? ⟨b, off + k * 3, none⟩ = some (.int .i64 c.a) ∧ w.cell? ⟨b, off + k * 3 + 1, none⟩ = some (.int .i64 c.b) ∧ w.cell? ⟨b, off + k * 3 + 2, none⟩ = some (.int .i64 c.c) :=
  ⟨h k c hk 0 _ rfl, h k c hk 1 _ rfl, h k c hk 2 _ rfl⟩
theorem intAt {w : World} {b off k : Nat} {cs : List Int} {c : Int} (h : RowsAt ic 1 w b off cs) (hk : cs[k]? = some c) : w.cell? ⟨b, off + k, none⟩ = some (.int .i64 c) := rowAt1 h hk rfl

theorem Try.infoL : (Try.prog.info? 64).map (fun i => (i.zero, i.size, i.bytes)) = some (some (.agg #[.int .i64 0, .int .i64 0, .int .i64 0]), 3, 24) := by kernel_rfl
theorem Try.infoI : (Try.prog.info? 3).map (fun i => (i.zero, i.size, i.bytes)) = some (some (.int .i64 0), 1, 8) := by kernel_rfl

/-- The graph value v reads as g. -/
def GrR (w : World) (B : Nat) (v : Value) (g : Gr) : Prop := ∃ v2, v = .agg #[.int .i64 g.n, v2] ∧ SlR lc 3 w B v2 g.ls
theorem GrR.up {w w' : World} {v : Value} {g : Gr} (h : GrR w w.heap.size v g) (hb : Below w.heap.size w w') : GrR w' w'.heap.size v g := by
  obtain ⟨v2, rfl, h1⟩ := h
  exact ⟨v2, rfl, h1.up hb⟩
theorem GrR.below {w w' : World} {B : Nat} {v : Value} {g : Gr} (h : GrR w B v g) (hb : Below B w w') : GrR w' B v g := by
  obtain ⟨v2, rfl, h1⟩ := h
  exact ⟨v2, rfl, h1.below hb⟩
theorem GrR.more {w : World} {B B' : Nat} {v : Value} {g : Gr} (h : GrR w B v g) (hB : B ≤ B') : GrR w B' v g := by
  obtain ⟨v2, rfl, h1⟩ := h
  exact ⟨v2, rfl, h1.more hB⟩
/-- What a graph's value is. -/
theorem GrR.form {w : World} {B : Nat} {v : Value} {g : Gr} (h : GrR w B v g) : ∃ A cap, v = .agg #[.int .i64 g.n, .slice A g.ls.length cap] ∧ g.ls.length ≤ cap ∧
    (0 < g.ls.length → ∃ b off, A = some ⟨b, off, none⟩ ∧ b < B ∧ RowsAt lc 3 w b off g.ls) := by
  obtain ⟨v2, rfl, A, cap, rfl, hc, hr⟩ := h
  exact ⟨A, cap, rfl, hc, hr⟩
theorem beq_tb {x y : Int} {p : Prop} (h : p ↔ x = y) : (x == y) = tb p := by
  by_cases hxy : x = y
  · rw [tb_yes (h.2 hxy)]; simp [hxy]
  · rw [tb_no (fun h' => hxy (h.1 h'))]; simp [hxy]
theorem own_far {α : Type} {enc : α → List Value} {e s base : Nat} {w : World} {v : Value} {l : List α} (h : Own enc e s w base v l) {p : Addr} (hp : ∀ q, v.ownBlock = some q → q ≠ p.block) (u : Value) : Own enc e s (w.setCell p u) base v l :=
  h.keep fun q hq => Below.heap_setCell _ _ _ _ (hp q hq)
theorem own_blk_ne {α : Type} {enc : α → List Value} {e t : TypeId} {s base T : Nat} {w : World} {v : Value} {l : List α} {cs : Array Value} (h : Own enc e s w base v l) (hB : Blk w T t cs) (hne : e ≠ t) : v.ownBlock ≠ some T := by
  rcases h.2 with ⟨rfl, _⟩ | ⟨g, cap, cur, rfl, _, hh, _⟩
  · simp [Value.ownBlock]
  · intro he
    simp [Value.ownBlock] at he
    subst he
    unfold Blk at hB
    rw [hh] at hB
    injection hB with hB
    injection hB with _ ht
    exact hne ht
theorem own_far' {α : Type} {enc : α → List Value} {e s base b i : Nat} {w : World} {v : Value} {l : List α} (h : Own enc e s w base v l) (hne : v.ownBlock ≠ some b) (u : Value) : Own enc e s (w.setCell ⟨b, i, none⟩ u) base v l :=
  own_far h (fun q hq he => hne (by rw [hq, he])) u
end Go.Proofs.Ytbhkjeicogjfbaa
