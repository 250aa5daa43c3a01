/- Tables: marks. Conditions: at most 1048576 routes and hops. -/
import Derived.Test.YtlkchocjldllgaaTabH
namespace Go.Proofs.Ytlkchocjldllgaa
open Go.RowKit

/-- The table that reads 1, 2, .. -/
def marksT (t : Tab) : Tab := ⟨marks t.routes.length 1, marksI t.hops.length (1 + 3 * (t.routes.length : Int))⟩
set_option maxHeartbeats 800000 in
theorem markT_any (v : Value) (t : Tab) (base : Nat) (w : World) (hO : OwnT w base v t) (hn : t.routes.length ≤ 1048576 ∧ t.hops.length ≤ 1048576) :
    Calls Try.prog 38 #[v, .int .i64 1] w fun e w' => e = .returned (.int .i64 (1 + 3 * t.routes.length + t.hops.length)) ∧ OwnT w' base v (marksT t) ∧
      (∀ B, (∀ v1 v2, v = .agg #[v1, v2] → ∀ q, v1.ownBlock = some q ∨ v2.ownBlock = some q → B ≤ q) → B ≤ w.heap.size → Below B w w') ∧
      (∀ q, q < w.heap.size → (∀ v1 v2, v = .agg #[v1, v2] → v1.ownBlock ≠ some q ∧ v2.ownBlock ≠ some q) → w'.heap[q]? = w.heap[q]?) ∧ w.heap.size ≤ w'.heap.size := by
  obtain ⟨v1, v2, rfl, h1, h2, hsep⟩ := hO
  obtain ⟨hn1, hn2⟩ := hn
  have hb1 := below1 w (.cells #[v1, v2] 30)
  have B1 := Blk.new w 30 #[v1, v2]
  obtain ⟨wb, hwb⟩ : ∃ wb, wb = w.alloc (.cells #[v1, v2] 30) := ⟨_, rfl⟩
  rw [← hwb] at hb1 B1
  have l1 := World.ownsRow.lt h1
  have l2 := World.ownsRow.lt h2
  go_enter Try.func38, Try.ntmps38
  go_wp2_with fail
  rw [← hwb]
  clear hwb
  refine (mark_any v1 t.routes base _ (h1.below hb1) hn1).mono ?_
  rintro e w1 ⟨rfl, hO1, hg1⟩
  have B2 : Blk w1 w.heap.size 30 #[v1, v2] := B1.grown hg1 fun h => by have := l1 _ h.symm; omega
  have b1 := B2.cell 1
  have hO2 : Own ic 3 1 w1 base v2 t.hops := (h2.below hb1).keep fun q hq => hg1.block q (by have := (l2 q hq).2; have := hb1.size; omega) (fun h => hsep q h.symm hq)
  go_wp2_with fail
  refine (markI_any v2 t.hops _ base _ hO2 hn2 (by omega)).mono ?_
  rintro e w2 ⟨rfl, hO3, hg2⟩
  have hO4 : Own rc 40 3 w2 base v1 (marks t.routes.length 1) := hO1.keep fun q hq => hg2.block q (World.ownsRow.lt hO1 q hq).2 (fun h => hsep q hq h.symm)
  go_wp2
  go_ret
  refine ⟨rfl, ⟨_, _, rfl, hO4, hO3, hsep⟩, fun B hB hBw => ?_, fun q hq hne => ?_, ?_⟩
  · have h := hB _ _ rfl
    have e1 : Below B w w1 := (hb1.mono hBw).grown hg1 (Nat.le_trans hBw hb1.size) fun q hq => h q (.inl hq)
    exact e1.grown hg2 (Nat.le_trans hBw (Nat.le_trans hb1.size hg1.size)) fun q hq => h q (.inr hq)
  · obtain ⟨n1, n2⟩ := hne _ _ rfl
    rw [hg2.block q (by have := hb1.size; have := hg1.size; omega) (fun h => n2 h.symm), hg1.block q (by have := hb1.size; omega) (fun h => n1 h.symm)]
    exact hb1.block q hq
  · have := hb1.size; have := hg1.size; have := hg2.size; omega
set_option maxHeartbeats 800000 in
theorem heldT_any (v : Value) (t : Tab) (n m : Nat) (w : World) (hv : TbR w w.heap.size v t) (hn : t.routes.length = n ∧ t.hops.length = m ∧ n ≤ 1048576 ∧ m ≤ 1048576) (hm : t.routes = marks t.routes.length 1 ∧ t.hops = marksI t.hops.length (1 + 3 * (t.routes.length : Int))) :
    Calls Try.prog 39 #[v, .int .i64 1] w fun e w' => e = .returned (.int .i64 (1 + 3 * n + m)) ∧ Below w.heap.size w w' := by
  obtain ⟨v1, v2, rfl, h1, h2⟩ := hv
  obtain ⟨rfl, rfl, hn1, hn2⟩ := hn
  have HM := hide hm
  clear hm
  have hb1 := below1 w (.cells #[v1, v2] 30)
  go_enter Try.func39, Try.ntmps39
  go_wp2_with fail
  refine (held_any v1 t.routes _ (h1.up hb1) hn1 HM.out.1).mono ?_
  rintro e w1 ⟨rfl, rfl⟩
  go_wp2_with fail
  refine (heldI_any v2 t.hops _ _ (h2.up hb1) hn2 (by omega) HM.out.2).mono ?_
  rintro e w2 ⟨rfl, rfl⟩
  go_wp2
  go_ret
  exact ⟨rfl, hb1⟩
end Go.Proofs.Ytlkchocjldllgaa
