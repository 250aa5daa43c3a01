/- A slice that grows beside others of the call's own. Conditions: none. -/
import Derived.Test.YtbhkjeicogjfbaaAppI
namespace Go.Proofs.Ytbhkjeicogjfbaa
open Go.RowKit

/-- The slice v of elements L grows; what lay in the blocks from lo to W2's end is as it was. -/
structure OutE {α : Type} (enc : α → List Value) (e s : Nat) (w0 W2 W : World) (v : Value) (L : List α) (lo : Nat) : Prop where
  bw : Below w0.heap.size w0 W
  o : Own enc e s W w0.heap.size v L
  gap : ∀ q, v.ownBlock = some q → q < lo ∨ W2.heap.size ≤ q
  keep : ∀ k, lo ≤ k → k < W2.heap.size → W.heap[k]? = W2.heap[k]?
  sz : W2.heap.size ≤ W.heap.size
section
variable {α : Type} {enc : α → List Value} {e s : Nat} {w0 W2 W W' : World} {v : Value} {L : List α} {lo : Nat}
theorem OutE.below (h : OutE enc e s w0 W2 W v L lo) (hb : Below W.heap.size W W') : OutE enc e s w0 W2 W' v L lo :=
  ⟨h.bw.trans (hb.mono h.bw.size), h.o.below hb, h.gap, fun k h1 h2 => (hb.block k (Nat.lt_of_lt_of_le h2 h.sz)).trans (h.keep k h1 h2), Nat.le_trans h.sz hb.size⟩
theorem OutE.start (hb : Below w0.heap.size w0 W) (ho : Own enc e s W w0.heap.size v L) (hg : ∀ q, v.ownBlock = some q → q < lo) : OutE enc e s w0 W W v L lo :=
  ⟨hb, ho, fun q hq => .inl (hg q hq), fun _ _ _ => rfl, Nat.le_refl _⟩
theorem OutE.own {β : Type} {enc2 : β → List Value} {e2 s2 base : Nat} {u : Value} {d : List β} (h : OutE enc e s w0 W2 W v L lo) (k : Own enc2 e2 s2 W2 base u d) (hb : lo ≤ base) : Own enc2 e2 s2 W base u d :=
  k.keep fun g hg => h.keep g (Nat.le_trans hb (World.ownsRow.lt k g hg).1) (World.ownsRow.lt k g hg).2
theorem OutE.blk {g : Nat} {t : TypeId} {cs : Array Value} (h : OutE enc e s w0 W2 W v L lo) (k : Blk W2 g t cs) (hb : lo ≤ g) : Blk W g t cs := (h.keep g hb k.lt).trans k
/-- append to it. -/
theorem wpList_appO {P : Program} {t : TypeId} {B : Nat} {w : World} {ops : Array Oper} {rest : List Oper} {o : Oper} {a : Act} {Q : Exit → Act → World → Prop} (hg : o.guard = none)
    (I : SlInf P t e enc s) (x y : Operand) (ho : o.op = .call { callee := .builtin .append, args := #[x, y], argTypes := #[t, t] }) (v u : Value) (hx : a.eval x = v) (hy : a.eval y = u) (w0 W2 : World) (lo : Nat) (l m l' : List α) (N : Nat) (hl : l' = l ++ m) (hN : l'.length = N)
    (h : OutE enc e s w0 W2 w v l lo) (hm : SlR enc s w B u m) (hn : N ≤ 2097152)
    (hK : ∀ A cap w', OutE enc e s w0 W2 w' (.slice A N cap) l' lo → wpList P ops Q rest (a.put o.dst (.slice A N cap)) w') : wpList P ops Q (o :: rest) a w := by
  subst hl
  rw [List.length_append] at hN
  subst hN
  refine wpList_app hg I x y ho v u hx hy w0.heap.size B l m h.o hm hn h.bw.size fun A cap w' h3 h4 h5 => hK A cap w' ⟨h.bw.grown h4 h.bw.size fun q hq => (World.ownsRow.lt h.o q hq).1, h3, fun q hq => ?_, fun k h1 h2 => ?_, Nat.le_trans h.sz h4.size⟩
  · rcases h5 with h5 | h5
    · rw [h5] at hq; exact h.gap q hq
    · rw [h5] at hq
      injection hq with hq
      exact .inr (by rw [← hq]; exact h.sz)
  · refine (h4.block k (Nat.lt_of_lt_of_le h2 h.sz) fun he => ?_).trans (h.keep k h1 h2)
    have := h.gap k he.symm
    omega
end
abbrev OutI (w0 W2 W : World) (v : Value) (L : List Int) (lo : Nat) : Prop := OutE ic 3 1 w0 W2 W v L lo
end Go.Proofs.Ytbhkjeicogjfbaa
