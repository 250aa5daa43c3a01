/- The draw of DrawTableRemove. Conditions: none. -/
import Derived.Test.YtlkchocjldllgaaDrawV
import Derived.Test.YtlkchocjldllgaaTabV
namespace Go.Proofs.Ytlkchocjldllgaa
open Go.RowKit

theorem Kept.drew {a : Nat} {w w' : World} (h : Kept a w w') : Kept a w w'.drew := ⟨h.size, h.block⟩
set_option maxHeartbeats 1600000 in
theorem drawRemove_any (v : Value) (bs : List Int) (w : World) (hv : SlR bc 1 w w.heap.size v bs) (hm : bs.length ≤ 9223372036854775807 ∧ ∀ n ∈ bs, 0 ≤ n ∧ n ≤ 255) :
    Calls Try.prog 40 #[v] w (DrawnT2 w) := by
  have hb0 := below1 w (.cells #[.slice none 0 0, .slice none 0 0] 30)
  have hO0 := Blk.new w 30 #[.slice none 0 0, .slice none 0 0]
  go_enter Try.func40, Try.ntmps40
  go_wp2_with fail
  refine (open_any v bs _ (hv.up hb0) hm).mono ?_
  rintro e w1 ⟨g, bs', rfl, hgw, hR1, hb1⟩
  have hgl : w.heap.size < g := by have := hb0.size; simp at hgw this; omega
  have hb01 := hb0.trans (hb1.mono hb0.size)
  have hO1 := hO0.up hb1
  have hg1w := hR1.lt
  have h01 : w.heap.size < w1.heap.size := hO1.lt
  clear hO0 hb1 hb0
  go_wp2_with fail
  refine (drawTable_any bs' g 0 _ hR1 (by omega)).mono ?_
  rintro e w2 ⟨x, t, p2, rfl, hT2, ⟨hl1, hl2⟩, hR2, hp2, hg2⟩
  have hO2 := hO1.grown hg2 (by intro h; injection h; omega)
  have hb02 := below_g (by omega) hb01 hg2
  obtain ⟨x1, x2, rfl, hx1, hx2⟩ := hT2 w2 (Kept.refl _ _)
  obtain ⟨A1, c1, rfl, _⟩ := hx1.form
  obtain ⟨A2, c2, rfl, _⟩ := hx2.form
  clear hO1 hR1 hb01 hg2 hx1 hx2
  go_upto_region 3 with fail
  obtain ⟨X, hX⟩ : ∃ X, X = w2.heap.size := ⟨_, rfl⟩
  obtain ⟨w3, hw3⟩ : ∃ w3, w3 = w2.alloc (Obj.cells #[.slice A1 t.routes.length c1, .slice A2 t.hops.length c2] 30) := ⟨_, rfl⟩
  have hX3 : Blk w3 X 30 #[.slice A1 t.routes.length c1, .slice A2 t.hops.length c2] := by rw [hw3, hX]; exact Blk.new _ _ _
  have hO3 : Blk w3 w.heap.size 30 #[.slice none 0 0, .slice none 0 0] := by rw [hw3]; exact hO2.alloc _
  have hR3 : Rd w3 g bs' p2 := by rw [hw3]; exact hR2.alloc _
  have hf3 : w2.grownBy w3 (some g) := by rw [hw3]; exact only_alloc (only_refl _ _) _
  have hb03 : Below w.heap.size w w3 := below_g (by omega) hb02 hf3
  have hgX : some X ≠ some g := by intro h; injection h; have := hR2.lt; omega
  have hgO : some w.heap.size ≠ some g := by intro h; injection h; omega
  have hXO : X ≠ w.heap.size := by have := hO2.lt; omega
  have hOX : w.heap.size ≠ X := Ne.symm hXO
  rw [← hw3, ← hX]
  clear hw3 hX hO2 hR2 hb02
  go_wp2_with fail
  refine (drawRoute_any bs' g p2 _ hR3 (by omega)).mono ?_
  rintro e w4 ⟨q, p4, rfl, hR4, hp4, hg4⟩
  have hX4 := hX3.grown hg4 hgX
  have hO4 := hO3.grown hg4 hgO
  have hf4 := only_trans hf3 hg4
  have hb04 := below_g (by omega) hb03 hg4
  clear hX3 hO3 hR3 hf3 hb03 hg4
  go_upto_region 4 with fail
  obtain ⟨Y, hY⟩ : ∃ Y, Y = w4.heap.size := ⟨_, rfl⟩
  obtain ⟨w5, hw5⟩ : ∃ w5, w5 = w4.alloc (Obj.cells #[.int .i64 q.pre, .int .i64 q.bits, .int .i64 q.hop] 40) := ⟨_, rfl⟩
  have hY5 : Blk w5 Y 40 #[.int .i64 q.pre, .int .i64 q.bits, .int .i64 q.hop] := by rw [hw5, hY]; exact Blk.new _ _ _
  have hX5 : Blk w5 X 30 #[.slice A1 t.routes.length c1, .slice A2 t.hops.length c2] := by rw [hw5]; exact hX4.alloc _
  have hO5 : Blk w5 w.heap.size 30 #[.slice none 0 0, .slice none 0 0] := by rw [hw5]; exact hO4.alloc _
  have hR5 : Rd w5 g bs' p4 := by rw [hw5]; exact hR4.alloc _
  have hf5 : w2.grownBy w5 (some g) := by rw [hw5]; exact only_alloc hf4 _
  have hb05 : Below w.heap.size w w5 := by rw [hw5]; exact hb04.alloc hb04.size _
  have hK5 := Kept.of_grown (a := w1.heap.size) hf5 hg1w
  have hgY : some Y ≠ some g := by intro h; injection h; have := hR4.lt; omega
  have hYX : Y ≠ X := by have := hX4.lt; omega
  have hXY : X ≠ Y := Ne.symm hYX
  have hYO : Y ≠ w.heap.size := by have := hO4.lt; omega
  have hOY : w.heap.size ≠ Y := Ne.symm hYO
  have hYw : w.heap.size ≤ Y := by have := hO4.lt; omega
  have hYw2 : w2.heap.size ≤ Y := by have := hf4.size; omega
  rw [← hw5, ← hY]
  clear hw5 hY hX4 hO4 hR4 hf4 hb04
  have t0 := hX5.cell 0
  by_cases hl0 : t.routes.length = 0
  · have hl0' : ¬ (0 < t.routes.length) := by omega
    have e0 : decide ((0 : Int) < (t.routes.length : Int)) = false := by simp [hl0]
    clear hl0
    have hXl := hX5.lt
    have hYl := hY5.lt
    have t0 := hX5.cell 0
    have t1 := hX5.cell 1
    have u0 := hY5.cell 0
    have u1 := hY5.cell 1
    have o0 := hO5.cell 0
    have o1 := hO5.cell 1
    have y0 := hO5.free 0
    have y1 := hO5.free 1
    go_upto_region 6 with fail
    go_region_held3 (fun w' => w'.cell? ⟨X, 0, none⟩ = some (.slice A1 t.routes.length c1) ∧ w'.cell? ⟨X, 1, none⟩ = some (.slice A2 t.hops.length c2) ∧ w'.cell? ⟨Y, 0, none⟩ = some (.int .i64 q.pre) ∧ w'.cell? ⟨Y, 1, none⟩ = some (.int .i64 q.bits)) (first | go_keep | fail) (fail)
    obtain ⟨wf, hwf⟩ : ∃ wf, wf = (w5.setCell ⟨w.heap.size, 0, none⟩ (.slice A1 t.routes.length c1)).setCell ⟨w.heap.size, 1, none⟩ (.slice A2 t.hops.length c2) := ⟨_, rfl⟩
    have hK2 : Kept w1.heap.size w2 wf := by
      rw [hwf]
      exact ((hK5).trans (Kept.of_set (p := ⟨w.heap.size, 0, none⟩) h01 _)).trans (Kept.of_set (p := ⟨w.heap.size, 1, none⟩) h01 _)
    have hT4 : ∀ W', Kept w.heap.size wf.drew W' → TbR W' W'.heap.size (.agg #[.slice A1 t.routes.length c1, .slice A2 t.hops.length c2]) t := fun W' hk => hT2 W' (hK2.drew.trans (Kept.mono hk (by omega)))
    have hbf : Below w.heap.size w wf.drew := by rw [hwf]; exact (((hb05).setCell (Nat.le_refl _) _).setCell (Nat.le_refl _) _).drew
    have BO' : Blk wf w.heap.size 30 #[.slice A1 t.routes.length c1, .slice A2 t.hops.length c2] := by rw [hwf]; exact (hO5.put 0 _).put 1 _
    rw [← hwf]
    clear hwf t0 t1 u0 u1 o0 o1 y0 y1 hT2
    have o0 := BO'.cell 0
    have o1 := BO'.cell 1
    go_wp2_with fail
    refine bodyPost_ret (v := .tuple #[.agg #[.slice A1 t.routes.length c1, .slice A2 t.hops.length c2], .int .i64 q.pre, .int .i64 q.bits]) (by simp [results, Try.results40, go_sem, o0, o1]) rfl ⟨_, _, _, t, rfl, hT4, ⟨hl1, hl2⟩, hbf⟩
  · have hl0' : 0 < t.routes.length := by omega
    go_wp2_with fail
    refine (pick_any bs' g _ _ _ hR5 (by omega)).mono ?_
    rintro e w6 ⟨r6, rfl, hr6, hR6, hg6⟩
    have hX6 := hX5.grown hg6 hgX
    have hO6 := hO5.grown hg6 hgO
    have hY6 := hY5.grown hg6 hgY
    have hb06 := below_g (by omega) hb05 hg6
    have hK6 := hK5.trans (Kept.of_grown (a := w1.heap.size) hg6 hg1w)
    clear hX5 hY5 hO5 hb05 hK5 hg6 hR5 hf5 t0
    by_cases hr0 : 0 < r6
    · have t0 := hX6.cell 0
      have hXY6 := hX6.lt
      go_upto_region 5 with fail
      have hT6 := fun W' (hk : Kept w1.heap.size w6 W') => hT2 W' (hK6.trans hk)
      go_region_law
        (first
          | (go_simp; go_at_call 64; refine (pick_any bs' g _ _ _ hR6.drew (by omega)).mono ?_; rintro e w7 ⟨r7, rfl, ⟨h70, h71⟩, hR7, hg7⟩
             have h72 := h71 (by omega)
             have hX7 := (show Blk w6.drew X 30 #[.slice A1 t.routes.length c1, .slice A2 t.hops.length c2] from hX6).grown hg7 hgX
             have hO7 := (show Blk w6.drew w.heap.size 30 #[.slice none 0 0, .slice none 0 0] from hO6).grown hg7 hgO
             have hY7 := (show Blk w6.drew Y 40 #[.int .i64 q.pre, .int .i64 q.bits, .int .i64 q.hop] from hY6).grown hg7 hgY
             have s0 := hX7.cell 0
             have k0 := hY7.cell 0
             have k1 := hY7.cell 1
             have k2 := hY7.cell 2
             have z0 := hY7.free 0
             have z1 := hY7.free 1
             have z2 := hY7.free 2
             obtain ⟨i7, rfl⟩ := Int.eq_ofNat_of_zero_le h70
             obtain ⟨⟨rp, rb, rh⟩, hq7⟩ := get_some (l := t.routes) (i := i7) (by omega)
             obtain ⟨_, _, hq8, hs1, _⟩ := hT6 w7 ((Kept.refl _ w6).drew.trans (Kept.of_grown hg7 hg1w))
             cases hq8
             obtain ⟨A', cap', hA', _, hrw⟩ := hs1
             injection hA' with hA1 hA2 hA3
             subst hA1
             clear hA2 hA3
             obtain ⟨gg, off, rfl, hbg, hcell⟩ := hrw (by omega)
             obtain ⟨g1, g2, g3⟩ := routeAt hcell hq7
             simp only at g1 g2 g3)
          | fail)
      · have hg7' : w6.grownBy w7 (some g) := ⟨hg7.os, hg7.tape, hg7.output, hg7.size, hg7.block⟩
        obtain ⟨w8, hw8⟩ : ∃ w8, w8 = ((w7.setCell ⟨Y, 0, none⟩ (.int .i64 rp)).setCell ⟨Y, 1, none⟩ (.int .i64 rb)).setCell ⟨Y, 2, none⟩ (.int .i64 rh) := ⟨_, rfl⟩
        have hYg : w.heap.size ≤ Y := hYw
        have hX8 : Blk w8 X 30 #[.slice (some ⟨gg, off, none⟩) t.routes.length c1, .slice A2 t.hops.length c2] := by rw [hw8]; exact ((hX7.far hXY _).far hXY _).far hXY _
        have hO8 : Blk w8 w.heap.size 30 #[.slice none 0 0, .slice none 0 0] := by rw [hw8]; exact ((hO7.far hOY _).far hOY _).far hOY _
        have hY8 : Blk w8 Y 40 #[.int .i64 rp, .int .i64 rb, .int .i64 rh] := by rw [hw8]; exact ((hY7.put 0 _).put 1 _).put 2 _
        have hb07 := below_g (by omega) hb06 hg7'
        have hb08 : Below w.heap.size w w8 := by rw [hw8]; exact ((hb07.setCell hYw _).setCell hYw _).setCell hYw _
        have hK8 : Kept w1.heap.size w2 w8 := ⟨by have h1 := hK6.size; have h2 := hg7'.size; rw [hw8]; simpa using Nat.le_trans h1 h2, fun q hq hl => by
          have h1 := (hK6.trans (Kept.of_grown (a := w1.heap.size) hg7' hg1w)).block q hq hl
          have hqY : q ≠ Y := by omega
          rw [hw8]
          exact (Below.heap_setCell _ _ _ q hqY).trans ((Below.heap_setCell _ _ _ q hqY).trans ((Below.heap_setCell _ _ _ q hqY).trans h1))⟩
        rw [← hw8]
        clear hw8 hX7 hO7 hY7 hb06 hb07 hK6 hX6 hO6 hY6 hT6 hg7 hg7' hR7 hR6 k0 k1 k2 z0 z1 z2 s0 g1 g2 g3 hq7 hcell
        have hXl := hX8.lt
        have hYl := hY8.lt
        have t0 := hX8.cell 0
        have t1 := hX8.cell 1
        have u0 := hY8.cell 0
        have u1 := hY8.cell 1
        have o0 := hO8.cell 0
        have o1 := hO8.cell 1
        have y0 := hO8.free 0
        have y1 := hO8.free 1
        go_upto_region 6 with fail
        go_region_held3 (fun w' => w'.cell? ⟨X, 0, none⟩ = some (.slice (some ⟨gg, off, none⟩) t.routes.length c1) ∧ w'.cell? ⟨X, 1, none⟩ = some (.slice A2 t.hops.length c2) ∧ w'.cell? ⟨Y, 0, none⟩ = some (.int .i64 (Rt.mk rp rb rh).pre) ∧ w'.cell? ⟨Y, 1, none⟩ = some (.int .i64 (Rt.mk rp rb rh).bits)) (first | go_keep | fail) (fail)
        obtain ⟨wf, hwf⟩ : ∃ wf, wf = (w8.setCell ⟨w.heap.size, 0, none⟩ (.slice (some ⟨gg, off, none⟩) t.routes.length c1)).setCell ⟨w.heap.size, 1, none⟩ (.slice A2 t.hops.length c2) := ⟨_, rfl⟩
        have hK2 : Kept w1.heap.size w2 wf := by
          rw [hwf]
          exact ((hK8).trans (Kept.of_set (p := ⟨w.heap.size, 0, none⟩) h01 _)).trans (Kept.of_set (p := ⟨w.heap.size, 1, none⟩) h01 _)
        have hT4 : ∀ W', Kept w.heap.size wf.drew W' → TbR W' W'.heap.size (.agg #[.slice (some ⟨gg, off, none⟩) t.routes.length c1, .slice A2 t.hops.length c2]) t := fun W' hk => hT2 W' (hK2.drew.trans (Kept.mono hk (by omega)))
        have hbf : Below w.heap.size w wf.drew := by rw [hwf]; exact (((hb08).setCell (Nat.le_refl _) _).setCell (Nat.le_refl _) _).drew
        have BO' : Blk wf w.heap.size 30 #[.slice (some ⟨gg, off, none⟩) t.routes.length c1, .slice A2 t.hops.length c2] := by rw [hwf]; exact (hO8.put 0 _).put 1 _
        rw [← hwf]
        clear hwf t0 t1 u0 u1 o0 o1 y0 y1 hT2
        have o0 := BO'.cell 0
        have o1 := BO'.cell 1
        go_wp2_with fail
        refine bodyPost_ret (v := .tuple #[.agg #[.slice (some ⟨gg, off, none⟩) t.routes.length c1, .slice A2 t.hops.length c2], .int .i64 (Rt.mk rp rb rh).pre, .int .i64 (Rt.mk rp rb rh).bits]) (by simp [results, Try.results40, go_sem, o0, o1]) rfl ⟨_, _, _, t, rfl, hT4, ⟨hl1, hl2⟩, hbf⟩
      · have hg7' : w6.grownBy w7 (some g) := ⟨hg7.os, hg7.tape, hg7.output, hg7.size, hg7.block⟩
        obtain ⟨w8, hw8⟩ : ∃ w8, w8 = ((w7.setCell ⟨Y, 0, none⟩ (.int .i64 rp)).setCell ⟨Y, 1, none⟩ (.int .i64 rb)).setCell ⟨Y, 2, none⟩ (.int .i64 rh) := ⟨_, rfl⟩
        have hYg : w.heap.size ≤ Y := hYw
        have hX8 : Blk w8 X 30 #[.slice (some ⟨gg, off, none⟩) t.routes.length c1, .slice A2 t.hops.length c2] := by rw [hw8]; exact ((hX7.far hXY _).far hXY _).far hXY _
        have hO8 : Blk w8 w.heap.size 30 #[.slice none 0 0, .slice none 0 0] := by rw [hw8]; exact ((hO7.far hOY _).far hOY _).far hOY _
        have hY8 : Blk w8 Y 40 #[.int .i64 rp, .int .i64 rb, .int .i64 rh] := by rw [hw8]; exact ((hY7.put 0 _).put 1 _).put 2 _
        have hb07 := below_g (by omega) hb06 hg7'
        have hb08 : Below w.heap.size w w8 := by rw [hw8]; exact ((hb07.setCell hYw _).setCell hYw _).setCell hYw _
        have hK8 : Kept w1.heap.size w2 w8 := ⟨by have h1 := hK6.size; have h2 := hg7'.size; rw [hw8]; simpa using Nat.le_trans h1 h2, fun q hq hl => by
          have h1 := (hK6.trans (Kept.of_grown (a := w1.heap.size) hg7' hg1w)).block q hq hl
          have hqY : q ≠ Y := by omega
          rw [hw8]
          exact (Below.heap_setCell _ _ _ q hqY).trans ((Below.heap_setCell _ _ _ q hqY).trans ((Below.heap_setCell _ _ _ q hqY).trans h1))⟩
        rw [← hw8]
        clear hw8 hX7 hO7 hY7 hb06 hb07 hK6 hX6 hO6 hY6 hT6 hg7 hg7' hR7 hR6 k0 k1 k2 z0 z1 z2 s0 g1 g2 g3 hq7 hcell
        have hXl := hX8.lt
        have hYl := hY8.lt
        have t0 := hX8.cell 0
        have t1 := hX8.cell 1
        have u0 := hY8.cell 0
        have u1 := hY8.cell 1
        have o0 := hO8.cell 0
        have o1 := hO8.cell 1
        have y0 := hO8.free 0
        have y1 := hO8.free 1
        go_upto_region 6 with fail
        go_region_held3 (fun w' => w'.cell? ⟨X, 0, none⟩ = some (.slice (some ⟨gg, off, none⟩) t.routes.length c1) ∧ w'.cell? ⟨X, 1, none⟩ = some (.slice A2 t.hops.length c2) ∧ w'.cell? ⟨Y, 0, none⟩ = some (.int .i64 (Rt.mk rp rb rh).pre) ∧ w'.cell? ⟨Y, 1, none⟩ = some (.int .i64 (Rt.mk rp rb rh).bits)) (first | go_keep | fail) (fail)
        obtain ⟨wf, hwf⟩ : ∃ wf, wf = (w8.setCell ⟨w.heap.size, 0, none⟩ (.slice (some ⟨gg, off, none⟩) t.routes.length c1)).setCell ⟨w.heap.size, 1, none⟩ (.slice A2 t.hops.length c2) := ⟨_, rfl⟩
        have hK2 : Kept w1.heap.size w2 wf := by
          rw [hwf]
          exact ((hK8).trans (Kept.of_set (p := ⟨w.heap.size, 0, none⟩) h01 _)).trans (Kept.of_set (p := ⟨w.heap.size, 1, none⟩) h01 _)
        have hT4 : ∀ W', Kept w.heap.size wf.drew W' → TbR W' W'.heap.size (.agg #[.slice (some ⟨gg, off, none⟩) t.routes.length c1, .slice A2 t.hops.length c2]) t := fun W' hk => hT2 W' (hK2.drew.trans (Kept.mono hk (by omega)))
        have hbf : Below w.heap.size w wf.drew := by rw [hwf]; exact (((hb08).setCell (Nat.le_refl _) _).setCell (Nat.le_refl _) _).drew
        have BO' : Blk wf w.heap.size 30 #[.slice (some ⟨gg, off, none⟩) t.routes.length c1, .slice A2 t.hops.length c2] := by rw [hwf]; exact (hO8.put 0 _).put 1 _
        rw [← hwf]
        clear hwf t0 t1 u0 u1 o0 o1 y0 y1 hT2
        have o0 := BO'.cell 0
        have o1 := BO'.cell 1
        go_wp2_with fail
        refine bodyPost_ret (v := .tuple #[.agg #[.slice (some ⟨gg, off, none⟩) t.routes.length c1, .slice A2 t.hops.length c2], .int .i64 (Rt.mk rp rb rh).pre, .int .i64 (Rt.mk rp rb rh).bits]) (by simp [results, Try.results40, go_sem, o0, o1]) rfl ⟨_, _, _, t, rfl, hT4, ⟨hl1, hl2⟩, hbf⟩
      · have hg7' : w6.grownBy w7 (some g) := ⟨hg7.os, hg7.tape, hg7.output, hg7.size, hg7.block⟩
        obtain ⟨w8, hw8⟩ : ∃ w8, w8 = ((w7.setCell ⟨Y, 0, none⟩ (.int .i64 rp)).setCell ⟨Y, 1, none⟩ (.int .i64 rb)).setCell ⟨Y, 2, none⟩ (.int .i64 rh) := ⟨_, rfl⟩
        have hYg : w.heap.size ≤ Y := hYw
        have hX8 : Blk w8 X 30 #[.slice (some ⟨gg, off, none⟩) t.routes.length c1, .slice A2 t.hops.length c2] := by rw [hw8]; exact ((hX7.far hXY _).far hXY _).far hXY _
        have hO8 : Blk w8 w.heap.size 30 #[.slice none 0 0, .slice none 0 0] := by rw [hw8]; exact ((hO7.far hOY _).far hOY _).far hOY _
        have hY8 : Blk w8 Y 40 #[.int .i64 rp, .int .i64 rb, .int .i64 rh] := by rw [hw8]; exact ((hY7.put 0 _).put 1 _).put 2 _
        have hb07 := below_g (by omega) hb06 hg7'
        have hb08 : Below w.heap.size w w8 := by rw [hw8]; exact ((hb07.setCell hYw _).setCell hYw _).setCell hYw _
        have hK8 : Kept w1.heap.size w2 w8 := ⟨by have h1 := hK6.size; have h2 := hg7'.size; rw [hw8]; simpa using Nat.le_trans h1 h2, fun q hq hl => by
          have h1 := (hK6.trans (Kept.of_grown (a := w1.heap.size) hg7' hg1w)).block q hq hl
          have hqY : q ≠ Y := by omega
          rw [hw8]
          exact (Below.heap_setCell _ _ _ q hqY).trans ((Below.heap_setCell _ _ _ q hqY).trans ((Below.heap_setCell _ _ _ q hqY).trans h1))⟩
        rw [← hw8]
        clear hw8 hX7 hO7 hY7 hb06 hb07 hK6 hX6 hO6 hY6 hT6 hg7 hg7' hR7 hR6 k0 k1 k2 z0 z1 z2 s0 g1 g2 g3 hq7 hcell
        have hXl := hX8.lt
        have hYl := hY8.lt
        have t0 := hX8.cell 0
        have t1 := hX8.cell 1
        have u0 := hY8.cell 0
        have u1 := hY8.cell 1
        have o0 := hO8.cell 0
        have o1 := hO8.cell 1
        have y0 := hO8.free 0
        have y1 := hO8.free 1
        go_upto_region 6 with fail
        go_region_held3 (fun w' => w'.cell? ⟨X, 0, none⟩ = some (.slice (some ⟨gg, off, none⟩) t.routes.length c1) ∧ w'.cell? ⟨X, 1, none⟩ = some (.slice A2 t.hops.length c2) ∧ w'.cell? ⟨Y, 0, none⟩ = some (.int .i64 (Rt.mk rp rb rh).pre) ∧ w'.cell? ⟨Y, 1, none⟩ = some (.int .i64 (Rt.mk rp rb rh).bits)) (first | go_keep | fail) (fail)
        obtain ⟨wf, hwf⟩ : ∃ wf, wf = (w8.setCell ⟨w.heap.size, 0, none⟩ (.slice (some ⟨gg, off, none⟩) t.routes.length c1)).setCell ⟨w.heap.size, 1, none⟩ (.slice A2 t.hops.length c2) := ⟨_, rfl⟩
        have hK2 : Kept w1.heap.size w2 wf := by
          rw [hwf]
          exact ((hK8).trans (Kept.of_set (p := ⟨w.heap.size, 0, none⟩) h01 _)).trans (Kept.of_set (p := ⟨w.heap.size, 1, none⟩) h01 _)
        have hT4 : ∀ W', Kept w.heap.size wf.drew W' → TbR W' W'.heap.size (.agg #[.slice (some ⟨gg, off, none⟩) t.routes.length c1, .slice A2 t.hops.length c2]) t := fun W' hk => hT2 W' (hK2.drew.trans (Kept.mono hk (by omega)))
        have hbf : Below w.heap.size w wf.drew := by rw [hwf]; exact (((hb08).setCell (Nat.le_refl _) _).setCell (Nat.le_refl _) _).drew
        have BO' : Blk wf w.heap.size 30 #[.slice (some ⟨gg, off, none⟩) t.routes.length c1, .slice A2 t.hops.length c2] := by rw [hwf]; exact (hO8.put 0 _).put 1 _
        rw [← hwf]
        clear hwf t0 t1 u0 u1 o0 o1 y0 y1 hT2
        have o0 := BO'.cell 0
        have o1 := BO'.cell 1
        go_wp2_with fail
        refine bodyPost_ret (v := .tuple #[.agg #[.slice (some ⟨gg, off, none⟩) t.routes.length c1, .slice A2 t.hops.length c2], .int .i64 (Rt.mk rp rb rh).pre, .int .i64 (Rt.mk rp rb rh).bits]) (by simp [results, Try.results40, go_sem, o0, o1]) rfl ⟨_, _, _, t, rfl, hT4, ⟨hl1, hl2⟩, hbf⟩
    · have hr1 : ¬ (0 < r6) := hr0
      have hXl := hX6.lt
      have hYl := hY6.lt
      have t0 := hX6.cell 0
      have t1 := hX6.cell 1
      have u0 := hY6.cell 0
      have u1 := hY6.cell 1
      have o0 := hO6.cell 0
      have o1 := hO6.cell 1
      have y0 := hO6.free 0
      have y1 := hO6.free 1
      go_upto_region 6 with fail
      go_region_held3 (fun w' => w'.cell? ⟨X, 0, none⟩ = some (.slice A1 t.routes.length c1) ∧ w'.cell? ⟨X, 1, none⟩ = some (.slice A2 t.hops.length c2) ∧ w'.cell? ⟨Y, 0, none⟩ = some (.int .i64 q.pre) ∧ w'.cell? ⟨Y, 1, none⟩ = some (.int .i64 q.bits)) (first | go_keep | fail) (fail)
      obtain ⟨wf, hwf⟩ : ∃ wf, wf = (w6.setCell ⟨w.heap.size, 0, none⟩ (.slice A1 t.routes.length c1)).setCell ⟨w.heap.size, 1, none⟩ (.slice A2 t.hops.length c2) := ⟨_, rfl⟩
      have hK2 : Kept w1.heap.size w2 wf := by
        rw [hwf]
        exact ((hK6).trans (Kept.of_set (p := ⟨w.heap.size, 0, none⟩) h01 _)).trans (Kept.of_set (p := ⟨w.heap.size, 1, none⟩) h01 _)
      have hT4 : ∀ W', Kept w.heap.size wf.drew W' → TbR W' W'.heap.size (.agg #[.slice A1 t.routes.length c1, .slice A2 t.hops.length c2]) t := fun W' hk => hT2 W' (hK2.drew.trans (Kept.mono hk (by omega)))
      have hbf : Below w.heap.size w wf.drew := by rw [hwf]; exact (((hb06).setCell (Nat.le_refl _) _).setCell (Nat.le_refl _) _).drew
      have BO' : Blk wf w.heap.size 30 #[.slice A1 t.routes.length c1, .slice A2 t.hops.length c2] := by rw [hwf]; exact (hO6.put 0 _).put 1 _
      rw [← hwf]
      clear hwf t0 t1 u0 u1 o0 o1 y0 y1 hT2
      have o0 := BO'.cell 0
      have o1 := BO'.cell 1
      go_wp2_with fail
      refine bodyPost_ret (v := .tuple #[.agg #[.slice A1 t.routes.length c1, .slice A2 t.hops.length c2], .int .i64 q.pre, .int .i64 q.bits]) (by simp [results, Try.results40, go_sem, o0, o1]) rfl ⟨_, _, _, t, rfl, hT4, ⟨hl1, hl2⟩, hbf⟩
end Go.Proofs.Ytlkchocjldllgaa
