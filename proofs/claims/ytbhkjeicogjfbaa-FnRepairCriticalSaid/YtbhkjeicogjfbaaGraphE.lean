/- Graphs in the exact laws: size, copy, comparison, marks. Conditions: at most 1048576 links. -/
import Derived.Test.YtbhkjeicogjfbaaLinkS
import Derived.Test.YtbhkjeicogjfbaaInts
namespace Go.Proofs.Ytbhkjeicogjfbaa
open Go.RowKit

/-- The graph value v is the call's own and reads as g. -/
def OwnG (w : World) (base : Nat) (v : Value) (g : Gr) : Prop := ∃ v2, v = .agg #[.int .i64 g.n, v2] ∧ Own lc 64 3 w base v2 g.ls
theorem OwnG.grr {w : World} {base : Nat} {v : Value} {g : Gr} (h : OwnG w base v g) : GrR w w.heap.size v g := by
  obtain ⟨v2, rfl, h2⟩ := h
  exact ⟨v2, rfl, h2.slr lc_len⟩
theorem OwnG.below {w w' : World} {base : Nat} {v : Value} {g : Gr} (h : OwnG w base v g) (hb : Below w.heap.size w w') : OwnG w' base v g := by
  obtain ⟨v2, rfl, h2⟩ := h
  exact ⟨v2, rfl, h2.below hb⟩
theorem OwnG.low {w : World} {base base' : Nat} {v : Value} {g : Gr} (h : OwnG w base v g) (hb : base' ≤ base) : OwnG w base' v g := by
  obtain ⟨v2, rfl, h2⟩ := h
  exact ⟨v2, rfl, h2.low hb⟩
theorem OwnG.lit {w : World} {base : Nat} {v : Value} {g : Gr} (h : OwnG w base v g) : ∃ A k, v = .agg #[.int .i64 g.n, .slice A g.ls.length k] := by
  obtain ⟨v2, rfl, h2⟩ := h
  obtain ⟨A, k, rfl, _⟩ := h2.lit
  exact ⟨A, k, rfl⟩
set_option maxHeartbeats 800000 in
theorem toG_any (v : Value) (g : Gr) (w : World) (hv : GrR w w.heap.size v g) (hn : g.ls.length ≤ 1048576) :
    Calls Try.prog 28 #[v] w fun e w' => ∃ v', e = .returned v' ∧ OwnG w' w.heap.size v' g ∧ Below w.heap.size w w' := by
  obtain ⟨v2, rfl, h2⟩ := hv
  obtain ⟨nl, hnl⟩ : ∃ nl, nl = Value.slice none 0 0 := ⟨_, rfl⟩
  obtain ⟨wb, hwb⟩ : ∃ wb, wb = ((w.alloc (Obj.cells #[.int .i64 g.n, v2] 41)).alloc (Obj.cells #[.int .i64 0, nl] 25)).alloc (Obj.cells #[.int .i64 g.n, nl] 25) := ⟨_, rfl⟩
  have hbw : Below w.heap.size w wb := by rw [hwb]; exact below3 _ _ _ _
  have BB : Blk wb w.heap.size 41 #[.int .i64 g.n, v2] := by rw [hwb]; exact ((Blk.new _ _ _).alloc _).alloc _
  have BR : Blk wb (w.heap.size + 1) 25 #[.int .i64 0, nl] := by
    have h := (Blk.new (w.alloc (Obj.cells #[.int .i64 g.n, v2] 41)) 25 #[.int .i64 0, nl]).alloc (Obj.cells #[.int .i64 g.n, nl] 25)
    rw [hwb]; simpa using h
  have BT : Blk wb (w.heap.size + 1 + 1) 25 #[.int .i64 g.n, nl] := by
    have h := Blk.new ((w.alloc (Obj.cells #[.int .i64 g.n, v2] 41)).alloc (Obj.cells #[.int .i64 0, nl] 25)) 25 #[.int .i64 g.n, nl]
    rw [hwb]; simpa using h
  rw [hnl] at hwb
  clear hnl
  go_enter Try.func28, Try.ntmps28
  go_wp2_with fail
  rw [← hwb]
  clear hwb
  refine (toS_any v2 g.ls _ (h2.up hbw) hn).mono ?_
  rintro e w1 ⟨x, rfl, hO1, hb1⟩
  have B1 := BB.up hb1
  have R1 := BR.up hb1
  have T1 := BT.up hb1
  have hb01 := hbw.trans (hb1.mono hbw.size)
  have t0 := T1.cell 0
  have t1 := T1.cell 1
  have z1 := T1.free 1
  have r0 := R1.cell 0
  have r1 := R1.cell 1
  have y0 := R1.free 0
  have y1 := R1.free 1
  have hs1 := hb01.size
  have hs2 := BT.lt
  clear hb1 hbw BB BR BT
  obtain ⟨Ax, capx, rfl, _, _⟩ := hO1.slr lc_len
  go_wp2_with fail
  have hg3 : w.heap.size ≤ w.heap.size + 1 := Nat.le_add_right _ _
  have hg4 : w.heap.size ≤ w.heap.size + 1 + 1 := by omega
  refine bodyPost_ret (v := .agg #[.int .i64 g.n, Value.slice Ax g.ls.length capx]) (by simp [results, Try.results28, go_sem, r0, r1]) rfl ⟨_, rfl, ?_, ?_⟩
  · have q1 : ∀ q, (Value.slice Ax g.ls.length capx).ownBlock = some q → wb.heap.size ≤ q := fun q hq => (World.ownsRow.lt hO1 q hq).1
    refine ⟨_, rfl, Own.low (own_far (own_far (own_far hO1 ?_ _) ?_ _) ?_ _) (by omega)⟩
    all_goals
      intro q hq
      have := q1 q hq; show q ≠ _; simp; omega
  · exact ((hb01.setCell hg4 _).setCell hg3 _).setCell hg3 _
theorem szG_any (v : Value) (g : Gr) (w : World) (hv : GrR w w.heap.size v g) (hn : g.ls.length ≤ 1048576) :
    Calls Try.prog 26 #[v, .int .i64 1048576] w fun e w' => e = .returned (.int .i64 (1048576 - g.ls.length)) ∧ Below w.heap.size w w' := by
  obtain ⟨v2, rfl, h2⟩ := hv
  have hb1 := below1 w (.cells #[.int .i64 g.n, v2] 41)
  go_enter Try.func26, Try.ntmps26
  go_wp2_with fail
  refine (sz_any v2 g.ls _ (h2.up hb1) (by omega)).mono ?_
  rintro e w1 ⟨rfl, rfl⟩
  go_wp2
  go_ret
  exact ⟨rfl, hb1⟩
theorem szG_over (v : Value) (g : Gr) (w : World) (hv : GrR w w.heap.size v g) (hn : 1048576 < g.ls.length) (hm : g.ls.length ≤ 9223372036854775807) :
    Calls Try.prog 26 #[v, .int .i64 1048576] w fun e w' => e = .returned (.int .i64 (-1)) ∧ Below w.heap.size w w' := by
  obtain ⟨v2, rfl, h2⟩ := hv
  have hb1 := below1 w (.cells #[.int .i64 g.n, v2] 41)
  go_enter Try.func26, Try.ntmps26
  go_wp2_with fail
  refine (sz_over v2 g.ls _ (h2.up hb1) (by omega) hm).mono ?_
  rintro e w1 ⟨rfl, rfl⟩
  go_wp2
  go_ret
  exact ⟨rfl, hb1⟩
set_option maxHeartbeats 800000 in
theorem eqG_any (v v' : Value) (g g' : Gr) (w : World) (hv : GrR w w.heap.size v g) (hv' : GrR w w.heap.size v' g') (hn : g.ls.length ≤ 1048576) (hn' : g'.ls.length ≤ 1048576) :
    Calls Try.prog 32 #[v, v'] w fun e w' => e = .returned (.bool (eqB g g')) ∧ Below w.heap.size w w' := by
  obtain ⟨v2, rfl, h2⟩ := hv
  obtain ⟨x2, rfl, y2⟩ := hv'
  obtain ⟨n, ls⟩ := g
  obtain ⟨n', ls'⟩ := g'
  simp only at h2 y2 hn hn' ⊢
  obtain ⟨wb, hwb⟩ : ∃ wb, wb = (w.alloc (Obj.cells #[.int .i64 n, v2] 25)).alloc (Obj.cells #[.int .i64 n', x2] 25) := ⟨_, rfl⟩
  have hbw : Below w.heap.size w wb := by rw [hwb]; exact below2 _ _ _
  by_cases hr : n = n'
  · subst hr
    have hne : (n != n) = false := by simp
    go_enter Try.func32, Try.ntmps32
    go_wp2_with fail
    rw [← hwb]
    clear hwb
    refine (eqS_any v2 x2 ls ls' _ (h2.up hbw) (y2.up hbw) hn hn').mono ?_
    rintro e w1 ⟨rfl, hb1⟩
    have hb01 := hbw.trans (hb1.mono hbw.size)
    by_cases hl : ls = ls'
    · rw [eqB_yes hl]
      have HL := hide hl
      clear hl
      go_wp2
      go_ret
      exact ⟨ret_bool (eqB_yes (by rw [HL.out])).symm, hb01⟩
    · rw [eqB_no hl]
      have HL := hide hl
      clear hl
      go_wp2
      go_ret
      exact ⟨ret_bool (eqB_no fun h => HL.out (by injection h)).symm, hb01⟩
  · have hne : (n != n') = true := by simp [hr]
    have HR := hide hr
    clear hr
    go_enter Try.func32, Try.ntmps32
    go_wp2
    rw [← hwb]
    go_ret
    exact ⟨ret_bool (eqB_no fun h => HR.out (by injection h)).symm, hbw⟩
/-- The graph whose links read 1, 2, .. -/
def marksG (g : Gr) : Gr := ⟨g.n, marks g.ls.length 1⟩
theorem marksG_len (g : Gr) : (marksG g).ls.length = g.ls.length := marks_len _ _
/-- The blocks of a graph's own links. -/
def InG (v : Value) (q : Nat) : Prop := ∃ n v2, v = .agg #[n, v2] ∧ v2.ownBlock = some q
theorem OwnG.range {w : World} {base : Nat} {v : Value} {g : Gr} (h : OwnG w base v g) : ∀ q, InG v q → base ≤ q ∧ q < w.heap.size := by
  obtain ⟨v2, rfl, h2⟩ := h
  rintro q ⟨n, x2, hx, hq⟩
  cases hx
  exact World.ownsRow.lt h2 q hq
/-- Only the graph's own block may have changed. -/
def MarkF (v : Value) (w w' : World) : Prop := w.heap.size ≤ w'.heap.size ∧ (∀ q, q < w.heap.size → ¬ InG v q → w'.heap[q]? = w.heap[q]?)
set_option maxHeartbeats 800000 in
theorem markG_k (v : Value) (g : Gr) (base : Nat) (K : Int) (w : World) (hO : OwnG w base v g) (hn : g.ls.length ≤ 1048576) (hK : K = 1 + 3 * (g.ls.length : Int)) :
    Calls Try.prog 33 #[v, .int .i64 1] w fun e w' => e = .returned (.int .i64 K) ∧ OwnG w' base v (marksG g) ∧ MarkF v w w' ∧ (base ≤ w.heap.size → Below base w w') := by
  subst hK
  have hrg := hO.range
  obtain ⟨v2, rfl, h2⟩ := hO
  have hb1 := below1 w (.cells #[.int .i64 g.n, v2] 25)
  obtain ⟨wb, hwb⟩ : ∃ wb, wb = w.alloc (.cells #[.int .i64 g.n, v2] 25) := ⟨_, rfl⟩
  rw [← hwb] at hb1
  have l2 := World.ownsRow.lt h2
  go_enter Try.func33, Try.ntmps33
  go_wp2_with fail
  rw [← hwb]
  clear hwb
  refine (mark_any v2 g.ls base _ (h2.below hb1) hn).mono ?_
  rintro e w1 ⟨rfl, hO1, hg1⟩
  go_wp2
  go_ret
  refine ⟨rfl, ⟨_, rfl, hO1⟩, ⟨Nat.le_trans hb1.size hg1.size, fun q hq hne => ?_⟩, fun hB => ?_⟩
  · rw [hg1.block q (by have := hb1.size; omega) (fun h => hne ⟨_, _, rfl, h.symm⟩)]
    exact hb1.block q hq
  · exact (hb1.mono hB).grown hg1 (Nat.le_trans hB hb1.size) fun q hq => (l2 q hq).1
end Go.Proofs.Ytbhkjeicogjfbaa
