/- What the exact laws on tables keep in memory from call to call. Conditions: none. -/
import Derived.Test.YtlkchocjldllgaaTabN
import Derived.Test.YtlkchocjldllgaaAddS
namespace Go.Proofs.Ytlkchocjldllgaa
open Go.RowKit

/-- The blocks of a table's own slices. -/
def InT (v : Value) (q : Nat) : Prop := ∃ v1 v2, v = .agg #[v1, v2] ∧ (v1.ownBlock = some q ∨ v2.ownBlock = some q)
theorem OwnT.range {w : World} {base : Nat} {v : Value} {t : Tab} (h : OwnT w base v t) : ∀ q, InT v q → base ≤ q ∧ q < w.heap.size := by
  obtain ⟨v1, v2, rfl, h1, h2, _⟩ := h
  rintro q ⟨x1, x2, hx, hq⟩
  cases hx
  rcases hq with hq | hq
  · exact World.ownsRow.lt h1 q hq
  · exact World.ownsRow.lt h2 q hq
theorem OwnT.keep {w w' : World} {base : Nat} {v : Value} {t : Tab} (h : OwnT w base v t) (hk : ∀ q, InT v q → w'.heap[q]? = w.heap[q]?) : OwnT w' base v t := by
  obtain ⟨v1, v2, rfl, h1, h2, h3⟩ := h
  exact ⟨v1, v2, rfl, h1.keep fun q hq => hk q ⟨_, _, rfl, .inl hq⟩, h2.keep fun q hq => hk q ⟨_, _, rfl, .inr hq⟩, h3⟩
theorem OwnT.blk_ne {w : World} {base B : Nat} {v : Value} {t : Tab} {ty : TypeId} {cs : Array Value} (h : OwnT w base v t) (hB : Blk w B ty cs) (h1 : (40 : TypeId) ≠ ty) (h2 : (3 : TypeId) ≠ ty) : ¬ InT v B := by
  obtain ⟨v1, v2, rfl, o1, o2, _⟩ := h
  rintro ⟨x1, x2, hx, hq⟩
  cases hx
  have key : ∀ {α : Type} {enc : α → List Value} {e : TypeId} {s : Nat} {u : Value} {l : List α}, Own enc e s w base u l → e ≠ ty → u.ownBlock ≠ some B := by
    intro α enc e s u l ho hne he
    rcases ho.2 with ⟨rfl, _⟩ | ⟨g, cap, cur, rfl, _, hh, _⟩
    · simp [Value.ownBlock] at he
    · simp [Value.ownBlock] at he
      subst he
      unfold Blk at hB
      rw [hh] at hB
      injection hB with hB
      injection hB with _ ht
      exact hne ht
  rcases hq with hq | hq
  · exact key o1 h1 hq
  · exact key o2 h2 hq
/-- Only the table's own blocks may have changed. -/
def MarkF (v : Value) (w w' : World) : Prop := w.heap.size ≤ w'.heap.size ∧ (∀ q, q < w.heap.size → ¬ InT v q → w'.heap[q]? = w.heap[q]?)
theorem markT_fr (v : Value) (t : Tab) (base : Nat) (w : World) (hO : OwnT w base v t) (hn : t.routes.length ≤ 1048576 ∧ t.hops.length ≤ 1048576) :
    Calls Try.prog 38 #[v, .int .i64 1] w fun e w' => e = .returned (.int .i64 (1 + 3 * t.routes.length + t.hops.length)) ∧ OwnT w' base v (marksT t) ∧ MarkF v w w' ∧ (base ≤ w.heap.size → Below base w w') := by
  have hr := hO.range
  refine (markT_any v t base w hO hn).mono ?_
  rintro e w' ⟨he, ho, h1, h2, h3⟩
  refine ⟨he, ho, ⟨h3, fun q hq hni => h2 q hq fun v1 v2 hv => ⟨fun h => hni ⟨v1, v2, hv, .inl h⟩, fun h => hni ⟨v1, v2, hv, .inr h⟩⟩⟩, fun hbs => h1 base (fun v1 v2 hv q hq => (hr q ⟨v1, v2, hv, hq⟩).1) hbs⟩

structure Ex (w W : World) (b3 b8 b11 : Nat) (c3 c8 c11 : Array Value) (y g : Value) (ty tg : Tab) : Prop where
  bw : Below w.heap.size w W
  t3 : Blk W b3 25 c3
  t8 : Blk W b8 30 c8
  t11 : Blk W b11 30 c11
  oy : OwnT W w.heap.size y ty
  og : OwnT W w.heap.size g tg
  dis : ∀ q, InT y q → ¬ InT g q
section
variable {w W W' : World} {b3 b8 b11 : Nat} {c3 c8 c11 : Array Value} {y g x : Value} {ty tg tx : Tab}
theorem Ex.below (h : Ex w W b3 b8 b11 c3 c8 c11 y g ty tg) (hb : Below W.heap.size W W') : Ex w W' b3 b8 b11 c3 c8 c11 y g ty tg :=
  ⟨h.bw.trans (hb.mono h.bw.size), h.t3.up hb, h.t8.up hb, h.t11.up hb, h.oy.below hb, h.og.below hb, h.dis⟩
theorem Ex.drew (h : Ex w W b3 b8 b11 c3 c8 c11 y g ty tg) : Ex w W.drew b3 b8 b11 c3 c8 c11 y g ty tg := h.below ((Below.refl _ _).drew)
theorem Blk.mark {T : Nat} {ty : TypeId} {cs : Array Value} {base : Nat} (h : Blk W T ty cs) (hx : OwnT W base x tx) (h1 : (40 : TypeId) ≠ ty) (h2 : (3 : TypeId) ≠ ty) (hm : MarkF x W W') : Blk W' T ty cs :=
  (hm.2 T h.lt (hx.blk_ne h h1 h2)).trans h
theorem Ex.markX (h : Ex w W b3 b8 b11 c3 c8 c11 y g ty tg) (hx : OwnT W w.heap.size x tx) (hm : MarkF x W W') (hb : Below w.heap.size W W') (hy : ∀ q, InT y q → ¬ InT x q) (hg : ∀ q, InT g q → ¬ InT x q) : Ex w W' b3 b8 b11 c3 c8 c11 y g ty tg :=
  ⟨h.bw.trans hb, h.t3.mark hx (by decide) (by decide) hm, h.t8.mark hx (by decide) (by decide) hm, h.t11.mark hx (by decide) (by decide) hm,
    h.oy.keep fun q hq => hm.2 q (h.oy.range q hq).2 (hy q hq), h.og.keep fun q hq => hm.2 q (h.og.range q hq).2 (hg q hq), h.dis⟩
theorem Ex.markG {tg' : Tab} (h : Ex w W b3 b8 b11 c3 c8 c11 y g ty tg) (hg' : OwnT W' w.heap.size g tg') (hm : MarkF g W W') (hb : Below w.heap.size W W') : Ex w W' b3 b8 b11 c3 c8 c11 y g ty tg' :=
  ⟨h.bw.trans hb, h.t3.mark h.og (by decide) (by decide) hm, h.t8.mark h.og (by decide) (by decide) hm, h.t11.mark h.og (by decide) (by decide) hm,
    h.oy.keep fun q hq => hm.2 q (h.oy.range q hq).2 (h.dis q hq), hg', h.dis⟩

/-- With the argument's own box and memory. -/
structure ExX (w W : World) (b3 b8 b10 b11 : Nat) (c3 c8 c10 c11 : Array Value) (y g x : Value) (ty tg tx : Tab) : Prop where
  e : Ex w W b3 b8 b11 c3 c8 c11 y g ty tg
  t10 : Blk W b10 30 c10
  ox : OwnT W w.heap.size x tx
  dy : ∀ q, InT y q → ¬ InT x q
  dg : ∀ q, InT g q → ¬ InT x q
variable {b10 : Nat} {c10 : Array Value}
theorem ExX.below (h : ExX w W b3 b8 b10 b11 c3 c8 c10 c11 y g x ty tg tx) (hb : Below W.heap.size W W') : ExX w W' b3 b8 b10 b11 c3 c8 c10 c11 y g x ty tg tx :=
  ⟨h.e.below hb, h.t10.up hb, h.ox.below hb, h.dy, h.dg⟩
theorem ExX.drew (h : ExX w W b3 b8 b10 b11 c3 c8 c10 c11 y g x ty tg tx) : ExX w W.drew b3 b8 b10 b11 c3 c8 c10 c11 y g x ty tg tx := h.below ((Below.refl _ _).drew)
theorem ExX.mark (h : ExX w W b3 b8 b10 b11 c3 c8 c10 c11 y g x ty tg tx) (hm : MarkF x W W') (hb : w.heap.size ≤ W.heap.size → Below w.heap.size W W') : Ex w W' b3 b8 b11 c3 c8 c11 y g ty tg :=
  h.e.markX h.ox hm (hb h.e.bw.size) h.dy h.dg
/-- Memory of two calls, one after the other, lies apart. -/
theorem OwnT.dis {w1 w2 : World} {base1 base2 : Nat} {v1 v2 : Value} {t1 t2 : Tab} (h1 : OwnT w1 base1 v1 t1) (h2 : OwnT w2 base2 v2 t2) (hb : w1.heap.size ≤ base2) : (∀ q, InT v1 q → ¬ InT v2 q) ∧ (∀ q, InT v2 q → ¬ InT v1 q) := by
  refine ⟨fun q a b => ?_, fun q b a => ?_⟩
  all_goals
    have := (h1.range q a).2
    have := (h2.range q b).1
    omega
theorem OwnT.lit {base : Nat} {v : Value} {t : Tab} (h : OwnT w base v t) : ∃ A1 n1 k1 A2 n2 k2, v = .agg #[.slice A1 n1 k1, .slice A2 n2 k2] := by
  obtain ⟨v1, v2, rfl, h1, h2, _⟩ := h
  obtain ⟨A1, k1, rfl, _⟩ := h1.lit
  obtain ⟨A2, k2, rfl, _⟩ := h2.lit
  exact ⟨_, _, _, _, _, _, rfl⟩
end
theorem marksT_len (t : Tab) : (marksT t).routes.length = t.routes.length ∧ (marksT t).hops.length = t.hops.length := by
  unfold marksT
  exact ⟨marks_len _ _, marksI_len _ _⟩
theorem markT_k (v : Value) (t : Tab) (base : Nat) (K : Int) (w : World) (hO : OwnT w base v t) (hn : t.routes.length ≤ 1048576 ∧ t.hops.length ≤ 1048576) (hK : K = 1 + 3 * (t.routes.length : Int) + (t.hops.length : Int)) :
    Calls Try.prog 38 #[v, .int .i64 1] w fun e w' => e = .returned (.int .i64 K) ∧ OwnT w' base v (marksT t) ∧ MarkF v w w' ∧ (base ≤ w.heap.size → Below base w w') := by
  rw [hK]
  exact markT_fr v t base w hO hn
theorem heldT_k (v : Value) (t : Tab) (K : Int) (w : World) (hv : TbR w w.heap.size v (marksT t)) (hn : t.routes.length ≤ 1048576 ∧ t.hops.length ≤ 1048576) (hK : K = 1 + 3 * (t.routes.length : Int) + (t.hops.length : Int)) :
    Calls Try.prog 39 #[v, .int .i64 1] w fun e w' => e = .returned (.int .i64 K) ∧ Below w.heap.size w w' := by
  rw [hK]
  obtain ⟨h1, h2⟩ := marksT_len t
  refine heldT_any v (marksT t) _ _ w hv ⟨h1, h2, hn⟩ ⟨?_, ?_⟩
  · rw [h1]; rfl
  · rw [h1, h2]; rfl
end Go.Proofs.Ytlkchocjldllgaa
