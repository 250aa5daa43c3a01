/- The draws of tables beside an address, a route, a key. Conditions: none. -/
import Derived.Test.YtlkchocjldllgaaDrawT
namespace Go.Proofs.Ytlkchocjldllgaa
open Go.RowKit

/-- What a draw leaves: a table of few routes and hops, beside another value. -/
def DrawnT (P : Value → Prop) (w : World) (e : Ending) (w' : World) : Prop :=
  ∃ (v u : Value) (t : Tab), e = .returned (.tuple #[v, u]) ∧ P u ∧ (∀ W', Kept w.heap.size w' W' → TbR W' W'.heap.size v t) ∧ (t.routes.length ≤ 11 ∧ t.hops.length ≤ 4) ∧ Below w.heap.size w w'

theorem Kept.mono {a b : Nat} {w w' : World} (h : Kept a w w') (hab : a ≤ b) : Kept b w w' := ⟨h.size, fun q hq hl => h.block q (by omega) hl⟩
theorem below_g {w W : World} {g : Nat} (h : w.heap.size ≤ g) {a : World} (hb : Below w.heap.size w a) (hg : a.grownBy W (some g)) : Below w.heap.size w W :=
  hb.grown hg hb.size fun k hk => by injection hk with hk; omega

set_option maxHeartbeats 800000 in
theorem drawFind_any (v : Value) (bs : List Int) (w : World) (hv : SlR bc 1 w w.heap.size v bs) (hm : bs.length ≤ 9223372036854775807 ∧ ∀ n ∈ bs, 0 ≤ n ∧ n ≤ 255) :
    Calls Try.prog 29 #[v] w (DrawnT (fun u => ∃ a : Int, u = .int .i64 a ∧ -1 ≤ a ∧ a ≤ 256) w) := by
  have hb0 := below1 w (.cells #[.slice none 0 0, .slice none 0 0] 30)
  have hO0 := Blk.new w 30 #[.slice none 0 0, .slice none 0 0]
  go_enter Try.func29, Try.ntmps29
  go_wp2_with fail
  refine (open_any v bs _ (hv.up hb0) hm).mono ?_
  rintro e w1 ⟨g, bs', rfl, hgw, hR1, hb1⟩
  have hgl : w.heap.size < g := by have := hb0.size; simp at hgw this; omega
  have hb01 := hb0.trans (hb1.mono hb0.size)
  have hO1 := hO0.up hb1
  have hg1w := hR1.lt
  have h01 : w.heap.size < w1.heap.size := hO1.lt
  clear hO0 hb1 hb0
  go_wp2_with fail
  refine (drawTable_any bs' g 0 _ hR1 (by omega)).mono ?_
  rintro e w2 ⟨x, t, p2, rfl, hT2, ⟨hl1, hl2⟩, hR2, hp2, hg2⟩
  have hO2 := hO1.grown hg2 (by intro h; injection h; omega)
  have hb02 := below_g (by omega) hb01 hg2
  obtain ⟨x1, x2, rfl, hx1, hx2⟩ := hT2 w2 (Kept.refl _ _)
  obtain ⟨A1, c1, rfl, _⟩ := hx1.form
  obtain ⟨A2, c2, rfl, _⟩ := hx2.form
  clear hO1 hR1 hb01 hg2 hx1 hx2
  go_upto_region 3 with fail
  obtain ⟨X, hX⟩ : ∃ X, X = w2.heap.size := ⟨_, rfl⟩
  obtain ⟨w3, hw3⟩ : ∃ w3, w3 = w2.alloc (Obj.cells #[.slice A1 t.routes.length c1, .slice A2 t.hops.length c2] 30) := ⟨_, rfl⟩
  have hX3 : Blk w3 X 30 #[.slice A1 t.routes.length c1, .slice A2 t.hops.length c2] := by rw [hw3, hX]; exact Blk.new _ _ _
  have hO3 : Blk w3 w.heap.size 30 #[.slice none 0 0, .slice none 0 0] := by rw [hw3]; exact hO2.alloc _
  have hR3 : Rd w3 g bs' p2 := by rw [hw3]; exact hR2.alloc _
  have hf3 : w2.grownBy w3 (some g) := by rw [hw3]; exact only_alloc (only_refl _ _) _
  have hb03 : Below w.heap.size w w3 := below_g (by omega) hb02 hf3
  have hgX : some X ≠ some g := by intro h; injection h; have := hR2.lt; omega
  have hgO : some w.heap.size ≠ some g := by intro h; injection h; omega
  have hXO : X ≠ w.heap.size := by have := hO2.lt; omega
  have hOX : w.heap.size ≠ X := Ne.symm hXO
  rw [← hw3, ← hX]
  have t0 := hX3.cell 0
  have t1 := hX3.cell 1
  clear hw3 hX hO2 hR2 hb02
  go_region_held3 (fun w' => w'.cell? ⟨X, 0, none⟩ = some (.slice A1 t.routes.length c1) ∧ w'.cell? ⟨X, 1, none⟩ = some (.slice A2 t.hops.length c2)) (first | go_keep | exact ⟨hX4.cell 0, hX4.cell 1⟩ | fail)
    (first
      | (go_at_call 63; refine (drawAddr_any bs' g p2 _ hR3.drew (by omega)).mono ?_; rintro e w4 ⟨a, p4, rfl, ha, hR4, hp4, hg4⟩
         have hX4 := (show Blk w3.drew X 30 #[.slice A1 t.routes.length c1, .slice A2 t.hops.length c2] from hX3).grown hg4 hgX
         have hO4 := (show Blk w3.drew w.heap.size 30 #[.slice none 0 0, .slice none 0 0] from hO3).grown hg4 hgO
         have o0 := hO4.cell 0
         have o1 := hO4.cell 1
         have y0 := hO4.free 0
         have y1 := hO4.free 1
         have s0 := hX4.cell 0
         have s1 := hX4.cell 1)
      | fail)
  have hg4' : w3.grownBy w4 (some g) := ⟨hg4.os, hg4.tape, hg4.output, hg4.size, hg4.block⟩
  have hb04 := below_g (by omega) hb03 hg4'
  have hK := (Kept.of_grown (a := w1.heap.size) (only_trans hf3 hg4') hg1w)
  have hT4 := fun W' (hk : Kept w.heap.size ((w4.setCell ⟨w.heap.size, 0, none⟩ (.slice A1 t.routes.length c1)).setCell ⟨w.heap.size, 1, none⟩ (.slice A2 t.hops.length c2)) W') => hT2 W' (((hK.trans (Kept.of_set (p := ⟨w.heap.size, 0, none⟩) h01 (.slice A1 t.routes.length c1))).trans (Kept.of_set (p := ⟨w.heap.size, 1, none⟩) h01 (.slice A2 t.hops.length c2))).trans (Kept.mono hk (by omega)))
  clear hX4 hO3 hX3 t0 t1 hT2 hR3 hg4 hR4
  go_wp2_with fail
  refine bodyPost_ret (v := .tuple #[.agg #[.slice A1 t.routes.length c1, .slice A2 t.hops.length c2], .int .i64 a]) (by simp [results, Try.results29, go_sem, o0, o1]) rfl ⟨_, _, t, rfl, ⟨a, rfl, ha⟩, hT4, ⟨hl1, hl2⟩, (hb04.setCell (Nat.le_refl _) _).setCell (Nat.le_refl _) _⟩
end Go.Proofs.Ytlkchocjldllgaa
