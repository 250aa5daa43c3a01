/- Tables: size, copy, comparison, marks. Conditions: at most 1048576 routes and hops together. -/
import Derived.Test.YtlkchocjldllgaaRouteS
import Derived.Test.YtlkchocjldllgaaInts
import Derived.Test.YtlkchocjldllgaaTabW
namespace Go.Proofs.Ytlkchocjldllgaa
open Go.RowKit

/-- The table value v is the call's own and reads as t. -/
def OwnT (w : World) (base : Nat) (v : Value) (t : Tab) : Prop := ∃ v1 v2, v = .agg #[v1, v2] ∧ Own rc 40 3 w base v1 t.routes ∧ Own ic 3 1 w base v2 t.hops ∧ ∀ q, v1.ownBlock = some q → v2.ownBlock ≠ some q
theorem OwnT.tbr {w : World} {base : Nat} {v : Value} {t : Tab} (h : OwnT w base v t) : TbR w w.heap.size v t := by
  obtain ⟨v1, v2, rfl, h1, h2, _⟩ := h
  exact ⟨v1, v2, rfl, h1.slr rc_len, h2.slr ic_len⟩
theorem OwnT.below {w w' : World} {base : Nat} {v : Value} {t : Tab} (h : OwnT w base v t) (hb : Below w.heap.size w w') : OwnT w' base v t := by
  obtain ⟨v1, v2, rfl, h1, h2, h3⟩ := h
  exact ⟨v1, v2, rfl, h1.below hb, h2.below hb, h3⟩
theorem OwnT.low {w : World} {base base' : Nat} {v : Value} {t : Tab} (h : OwnT w base v t) (hb : base' ≤ base) : OwnT w base' v t := by
  obtain ⟨v1, v2, rfl, h1, h2, h3⟩ := h
  exact ⟨v1, v2, rfl, h1.low hb, h2.low hb, h3⟩

theorem own_far {α : Type} {enc : α → List Value} {e s base : Nat} {w : World} {v : Value} {l : List α} (h : Own enc e s w base v l) {p : Addr} (hp : ∀ q, v.ownBlock = some q → q ≠ p.block) (u : Value) : Own enc e s (w.setCell p u) base v l :=
  h.keep fun q hq => Below.heap_setCell _ _ _ _ (hp q hq)

set_option maxHeartbeats 800000 in
theorem toT_any (v : Value) (t : Tab) (w : World) (hv : TbR w w.heap.size v t) (hn : t.routes.length ≤ 1048576 ∧ t.hops.length ≤ 1048576) :
    Calls Try.prog 24 #[v] w fun e w' => ∃ v', e = .returned v' ∧ OwnT w' w.heap.size v' t ∧ Below w.heap.size w w' := by
  obtain ⟨v1, v2, rfl, h1, h2⟩ := hv
  obtain ⟨hn1, hn2⟩ := hn
  obtain ⟨nl, hnl⟩ : ∃ nl, nl = Value.slice none 0 0 := ⟨_, rfl⟩
  obtain ⟨wb, hwb⟩ : ∃ wb, wb = ((w.alloc (Obj.cells #[v1, v2] 25)).alloc (Obj.cells #[nl, nl] 30)).alloc (Obj.cells #[nl, nl] 30) := ⟨_, rfl⟩
  have hbw : Below w.heap.size w wb := by rw [hwb]; exact below3 _ _ _ _
  have BB : Blk wb w.heap.size 25 #[v1, v2] := by rw [hwb]; exact ((Blk.new _ _ _).alloc _).alloc _
  have BR : Blk wb (w.heap.size + 1) 30 #[nl, nl] := by
    have h := (Blk.new (w.alloc (Obj.cells #[v1, v2] 25)) 30 #[nl, nl]).alloc (Obj.cells #[nl, nl] 30)
    rw [hwb]; simpa using h
  have BT : Blk wb (w.heap.size + 1 + 1) 30 #[nl, nl] := by
    have h := Blk.new ((w.alloc (Obj.cells #[v1, v2] 25)).alloc (Obj.cells #[nl, nl] 30)) 30 #[nl, nl]
    rw [hwb]; simpa using h
  rw [hnl] at hwb
  clear hnl
  go_enter Try.func24, Try.ntmps24
  go_wp2_with fail
  rw [← hwb]
  clear hwb
  refine (toS_any v1 t.routes _ (h1.up hbw) hn1).mono ?_
  rintro e w1 ⟨x, rfl, hO1, hb1⟩
  have B1 := BB.up hb1
  have R1 := BR.up hb1
  have T1 := BT.up hb1
  have hb01 := hbw.trans (hb1.mono hbw.size)
  have b0 := B1.cell 0
  have b1 := B1.cell 1
  have t0 := T1.cell 0
  have z0 := T1.free 0
  have hs1 := hb01.size
  have hs2 := BT.lt
  clear hb1 hbw BB BR BT
  obtain ⟨Ax, capx, rfl, _, _⟩ := hO1.slr rc_len
  go_wp2_with fail
  obtain ⟨w2, hw2⟩ : ∃ w2, w2 = w1.setCell ⟨w.heap.size + 1 + 1, 0, none⟩ (Value.slice Ax t.routes.length capx) := ⟨_, rfl⟩
  have T2 : Blk w2 (w.heap.size + 1 + 1) 30 #[Value.slice Ax t.routes.length capx, nl] := by rw [hw2]; exact T1.put 0 _
  have R2 : Blk w2 (w.heap.size + 1) 30 #[nl, nl] := by rw [hw2]; exact R1.far (by simp) _
  have B2 : Blk w2 w.heap.size 25 #[v1, v2] := by rw [hw2]; exact B1.far (by simp; omega) _
  have hb02 : Below w.heap.size w w2 := by rw [hw2]; exact hb01.setCell (by simp; omega) _
  have hO2 : Own rc 40 3 w2 wb.heap.size (Value.slice Ax t.routes.length capx) t.routes := by
    rw [hw2]
    exact hO1.keep fun q hq => Below.heap_setCell _ _ _ _ (by have := (World.ownsRow.lt hO1 q hq).1; show q ≠ w.heap.size + 1 + 1; omega)
  rw [← hw2]
  clear hw2 hO1 T1 R1 B1 hb01 b0 b1 t0 z0
  refine (toI_any v2 t.hops _ (h2.up hb02) hn2).mono ?_
  rintro e w3 ⟨y, rfl, hO3, hb3⟩
  have B3 := B2.up hb3
  have R3 := R2.up hb3
  have T3 := T2.up hb3
  have hO4 := hO2.below hb3
  have hsep : ∀ q, (Value.slice Ax t.routes.length capx).ownBlock = some q → y.ownBlock ≠ some q := fun q hq hq' => by
    have h5 := (World.ownsRow.lt hO2 q hq).2
    have h6 := (World.ownsRow.lt hO3 q hq').1
    omega
  have hb03 := hb02.trans (hb3.mono hb02.size)
  have hle3 := hb3.size
  have hle2 := T2.lt
  have t0 := T3.cell 0
  have t1 := T3.cell 1
  have z0 := T3.free 0
  have z1 := T3.free 1
  have r0 := R3.cell 0
  have r1 := R3.cell 1
  have y0 := R3.free 0
  have y1 := R3.free 1
  obtain ⟨Ay, capy, rfl, _, _⟩ := hO3.slr ic_len
  clear hb3 hb02 B2 R2 T2 hO2
  go_wp2_with fail
  have hg3 : w.heap.size ≤ w.heap.size + 1 := Nat.le_add_right _ _
  have hg4 : w.heap.size ≤ w.heap.size + 1 + 1 := by omega
  refine bodyPost_ret (v := .agg #[Value.slice Ax t.routes.length capx, Value.slice Ay t.hops.length capy]) (by simp [results, Try.results24, go_sem, r0, r1]) rfl ⟨_, rfl, ?_, ?_⟩
  · have q1 : ∀ q, (Value.slice Ax t.routes.length capx).ownBlock = some q → wb.heap.size ≤ q := fun q hq => (World.ownsRow.lt hO4 q hq).1
    have q2 : ∀ q, (Value.slice Ay t.hops.length capy).ownBlock = some q → w2.heap.size ≤ q := fun q hq => (World.ownsRow.lt hO3 q hq).1
    have hs := hO4
    refine ⟨_, _, rfl, Own.low (own_far (own_far (own_far hO4 ?_ _) ?_ _) ?_ _) (by omega), Own.low (own_far (own_far (own_far hO3 ?_ _) ?_ _) ?_ _) (by omega), hsep⟩
    all_goals
      intro q hq
      first | (have := q1 q hq; show q ≠ _; simp; omega) | (have := q2 q hq; show q ≠ _; simp; omega)
  · exact ((hb03.setCell hg4 _).setCell hg3 _).setCell hg3 _
end Go.Proofs.Ytlkchocjldllgaa
