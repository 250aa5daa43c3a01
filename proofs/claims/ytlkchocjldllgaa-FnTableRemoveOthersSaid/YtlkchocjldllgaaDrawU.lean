/- The draws of DrawTableTurn. Conditions: none. -/
import Derived.Test.YtlkchocjldllgaaDrawF
namespace Go.Proofs.Ytlkchocjldllgaa
open Go.RowKit

/-- A drawn table beside two numbers. -/
def DrawnT2 (w : World) (e : Ending) (w' : World) : Prop :=
  ∃ (v : Value) (a b : Int) (t : Tab), e = .returned (.tuple #[v, .int .i64 a, .int .i64 b]) ∧ (∀ W', Kept w.heap.size w' W' → TbR W' W'.heap.size v t) ∧ (t.routes.length ≤ 11 ∧ t.hops.length ≤ 4) ∧ Below w.heap.size w w'

set_option maxHeartbeats 800000 in
theorem drawTurn_any (v : Value) (bs : List Int) (w : World) (hv : SlR bc 1 w w.heap.size v bs) (hm : bs.length ≤ 9223372036854775807 ∧ ∀ n ∈ bs, 0 ≤ n ∧ n ≤ 255) :
    Calls Try.prog 34 #[v] w (DrawnT2 w) := by
  have hb0 := below1 w (.cells #[.slice none 0 0, .slice none 0 0] 30)
  have hO0 := Blk.new w 30 #[.slice none 0 0, .slice none 0 0]
  go_enter Try.func34, Try.ntmps34
  go_wp2_with fail
  refine (open_any v bs _ (hv.up hb0) hm).mono ?_
  rintro e w1 ⟨g, bs', rfl, hgw, hR1, hb1⟩
  have hgl : w.heap.size < g := by have := hb0.size; simp at hgw this; omega
  have hb01 := hb0.trans (hb1.mono hb0.size)
  have hO1 := hO0.up hb1
  have hg1w := hR1.lt
  have h01 : w.heap.size < w1.heap.size := hO1.lt
  clear hO0 hb1 hb0
  go_wp2_with fail
  refine (drawTable_any bs' g 0 _ hR1 (by omega)).mono ?_
  rintro e w2 ⟨x, t, p2, rfl, hT2, ⟨hl1, hl2⟩, hR2, hp2, hg2⟩
  have hO2 := hO1.grown hg2 (by intro h; injection h; omega)
  have hb02 := below_g (by omega) hb01 hg2
  obtain ⟨x1, x2, rfl, hx1, hx2⟩ := hT2 w2 (Kept.refl _ _)
  obtain ⟨A1, c1, rfl, _⟩ := hx1.form
  obtain ⟨A2, c2, rfl, _⟩ := hx2.form
  clear hO1 hR1 hb01 hg2 hx1 hx2
  go_upto_region 3 with fail
  obtain ⟨X, hX⟩ : ∃ X, X = w2.heap.size := ⟨_, rfl⟩
  obtain ⟨w3, hw3⟩ : ∃ w3, w3 = w2.alloc (Obj.cells #[.slice A1 t.routes.length c1, .slice A2 t.hops.length c2] 30) := ⟨_, rfl⟩
  have hX3 : Blk w3 X 30 #[.slice A1 t.routes.length c1, .slice A2 t.hops.length c2] := by rw [hw3, hX]; exact Blk.new _ _ _
  have hO3 : Blk w3 w.heap.size 30 #[.slice none 0 0, .slice none 0 0] := by rw [hw3]; exact hO2.alloc _
  have hR3 : Rd w3 g bs' p2 := by rw [hw3]; exact hR2.alloc _
  have hf3 : w2.grownBy w3 (some g) := by rw [hw3]; exact only_alloc (only_refl _ _) _
  have hb03 : Below w.heap.size w w3 := below_g (by omega) hb02 hf3
  have hgX : some X ≠ some g := by intro h; injection h; have := hR2.lt; omega
  have hgO : some w.heap.size ≠ some g := by intro h; injection h; omega
  have hXO : X ≠ w.heap.size := by have := hO2.lt; omega
  have hOX : w.heap.size ≠ X := Ne.symm hXO
  rw [← hw3, ← hX]
  have t0 := hX3.cell 0
  have t1 := hX3.cell 1
  clear hw3 hX hO2 hR2 hb02
  go_wp2_with fail
  all_goals
    refine (pick_any bs' g p2 _ _ hR3 (by omega)).mono ?_
    rintro e w4 ⟨r1, rfl, ⟨h10, h11⟩, R4, hg4⟩
    have h12 : r1 ≤ 4 := by have := h11 (by omega); omega
    go_wp2_with fail
    refine (pick_any bs' g _ _ _ R4 (by omega)).mono ?_
    rintro e w5 ⟨r2, rfl, ⟨h20, h21⟩, R5, hg5⟩
    have h22 := h21 (by omega)
    have hX5 := (hX3.grown hg4 hgX).grown hg5 hgX
    have hO5 := (hO3.grown hg4 hgO).grown hg5 hgO
    have t0 := hX5.cell 0
    have t1 := hX5.cell 1
    clear h11 h21
    go_wp2_with fail
    go_region_held3 (fun w' => w'.cell? ⟨X, 0, none⟩ = some (.slice A1 t.routes.length c1) ∧ w'.cell? ⟨X, 1, none⟩ = some (.slice A2 t.hops.length c2)) (first | go_keep | exact ⟨hX8.cell 0, hX8.cell 1⟩ | exact ⟨hX7.cell 0, hX7.cell 1⟩ | exact ⟨hX6.cell 0, hX6.cell 1⟩ | fail)
      (first
        | (go_at_call 64; refine (pick_any bs' g _ 3 _ R7 (by omega)).mono ?_; rintro e w8 ⟨r8, rfl, ⟨h80, h81⟩, R8, hg8⟩
           have h82 := h81 (by omega)
           have hX8 := hX7.grown hg8 hgX
           have hO8 := hO7.grown hg8 hgO
           have o0 := hO8.cell 0
           have o1 := hO8.cell 1
           have y0 := hO8.free 0
           have y1 := hO8.free 1
           have s0 := hX8.cell 0
           have s1 := hX8.cell 1)
        | (go_at_call 64; refine (pick_any bs' g _ 20 _ R6 (by omega)).mono ?_; rintro e w7 ⟨r7, rfl, ⟨h70, h71⟩, R7, hg7⟩
           have h72 := h71 (by omega)
           have hX7 := hX6.grown hg7 hgX
           have hO7 := hO6.grown hg7 hgO
           have o0 := hO7.cell 0
           have o1 := hO7.cell 1
           have y0 := hO7.free 0
           have y1 := hO7.free 1
           have s0 := hX7.cell 0
           have s1 := hX7.cell 1)
        | (go_at_call 64; refine (pick_any bs' g _ 8 _ R5.drew (by omega)).mono ?_; rintro e w6 ⟨r6, rfl, ⟨h60, h61⟩, R6, hg6⟩
           have h62 := h61 (by omega)
           have hX6 := (show Blk w5.drew X 30 #[.slice A1 t.routes.length c1, .slice A2 t.hops.length c2] from hX5).grown hg6 hgX
           have hO6 := (show Blk w5.drew w.heap.size 30 #[.slice none 0 0, .slice none 0 0] from hO5).grown hg6 hgO
           have o0 := hO6.cell 0
           have o1 := hO6.cell 1
           have y0 := hO6.free 0
           have y1 := hO6.free 1
           have s0 := hX6.cell 0
           have s1 := hX6.cell 1)
        | fail)
    have hg6' : w5.grownBy w6 (some g) := ⟨hg6.os, hg6.tape, hg6.output, hg6.size, hg6.block⟩
    have hg38 := only_trans (only_trans (only_trans (only_trans hg4 hg5) hg6') hg7) hg8
    have hb08 := below_g (by omega) hb03 hg38
    have hK := (Kept.of_grown (a := w1.heap.size) (only_trans hf3 hg38) hg1w)
    have hT4 := fun W' (hk : Kept w.heap.size ((w8.setCell ⟨w.heap.size, 0, none⟩ (.slice A1 t.routes.length c1)).setCell ⟨w.heap.size, 1, none⟩ (.slice A2 t.hops.length c2)) W') => hT2 W' (((hK.trans (Kept.of_set (p := ⟨w.heap.size, 0, none⟩) h01 (.slice A1 t.routes.length c1))).trans (Kept.of_set (p := ⟨w.heap.size, 1, none⟩) h01 (.slice A2 t.hops.length c2))).trans (Kept.mono hk (by omega)))
    obtain ⟨z1, hz1⟩ : ∃ z, z = r1 + r2 / 19 * 5 := ⟨_, rfl⟩
    obtain ⟨z2, hz2⟩ : ∃ z, z = IntKind.i64.wrap (r6 + IntKind.i64.wrap (IntKind.i64.wrap (IntKind.i64.wrap (r7.tdiv 19) * IntKind.i64.wrap (r8 - 1)) * 8)) := ⟨_, rfl⟩
    rw [← hz1, ← hz2]
    clear hX8 hO8 hX7 hO7 hX6 hO6 hX5 hO5 hO3 hX3 t0 t1 hT2 hR3 R4 R5 R6 R7 R8 hg4 hg5 hg6 hg6' hg7 hg8 hz1 hz2
    go_wp2_with fail
    refine bodyPost_ret (v := .tuple #[.agg #[.slice A1 t.routes.length c1, .slice A2 t.hops.length c2], .int .i64 z1, .int .i64 z2]) (by simp [results, Try.results34, go_sem, o0, o1]) rfl ⟨_, _, _, t, rfl, hT4, ⟨hl1, hl2⟩, (hb08.setCell (Nat.le_refl _) _).setCell (Nat.le_refl _) _⟩
end Go.Proofs.Ytlkchocjldllgaa
