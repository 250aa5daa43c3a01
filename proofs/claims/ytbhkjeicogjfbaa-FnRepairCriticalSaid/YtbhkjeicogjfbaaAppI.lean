/- Appending ints. -/
import Derived.Test.YtbhkjeicogjfbaaDistW
import Derived.Test.YtbhkjeicogjfbaaApp
namespace Go.Proofs.Ytbhkjeicogjfbaa
open Go.RowKit

theorem infI : SlInf Try.prog 28 3 ic 1 := by
  obtain ⟨i0, hi, hz0, hz1, hz2⟩ := info_parts Try.infoI
  exact ⟨Try.underlying28, ⟨i0, _, hi, hz0, hz1, by rw [hz2]; decide, rfl⟩, by decide, ic_len, ic_one⟩
theorem slr_lit (W : World) (x : Int) : SlR ic 1 (W.alloc (Obj.cells #[.int .i64 x] 3)) (W.heap.size + 1) (.slice (some ⟨W.heap.size, 0, none⟩) 1 1) [x] :=
  slr_one (Blk.new W 3 #[.int .i64 x]) rfl (by omega)
/-- Two slices of ints of the call's own, apart. -/
structure TwoI (w0 W : World) (v v2 : Value) (l d : List Int) : Prop where
  bw : Below w0.heap.size w0 W
  o : Own ic 3 1 W w0.heap.size v l
  p : Own ic 3 1 W w0.heap.size v2 d
  dis : ∀ q, v.ownBlock = some q → v2.ownBlock ≠ some q
section
variable {w0 W W' : World} {v v2 : Value} {l d : List Int}
theorem TwoI.below (h : TwoI w0 W v v2 l d) (hb : Below W.heap.size W W') : TwoI w0 W' v v2 l d :=
  ⟨h.bw.trans (hb.mono h.bw.size), h.o.below hb, h.p.below hb, h.dis⟩
/-- append beside another slice. -/
theorem wpList_appT {P : Program} {t : TypeId} {B : Nat} {w : World} {ops : Array Oper} {rest : List Oper} {o : Oper} {a : Act} {Q : Exit → Act → World → Prop} (hg : o.guard = none)
    (I : SlInf P t 3 ic 1) (x y : Operand) (ho : o.op = .call { callee := .builtin .append, args := #[x, y], argTypes := #[t, t] }) (v u v2 : Value) (hx : a.eval x = v) (hy : a.eval y = u) (w0 : World) (l m l' d : List Int) (N : Nat) (hl : l' = l ++ m) (hN : l'.length = N)
    (h : TwoI w0 w v v2 l d) (hm : SlR ic 1 w B u m) (hn : N ≤ 2097152)
    (hK : ∀ A cap w', TwoI w0 w' (.slice A N cap) v2 l' d → wpList P ops Q rest (a.put o.dst (.slice A N cap)) w') : wpList P ops Q (o :: rest) a w := by
  subst hl
  rw [List.length_append] at hN
  subst hN
  refine wpList_app hg I x y ho v u hx hy w0.heap.size B l m h.o hm hn h.bw.size fun A cap w' h3 h4 h5 => hK A cap w' ⟨h.bw.grown h4 h.bw.size fun q hq => (World.ownsRow.lt h.o q hq).1, h3, own_grown h.p h4 fun q hq he => h.dis q he hq, fun q hq hq2 => ?_⟩
  rcases h5 with h5 | h5
  · rw [h5] at hq; exact h.dis q hq hq2
  · rw [h5] at hq
    have := (World.ownsRow.lt h.p q hq2).2
    injection hq with hq
    omega
end
end Go.Proofs.Ytbhkjeicogjfbaa
