/- The draw of DrawTableAdd. Conditions: none. -/
import Derived.Test.YtlkchocjldllgaaDrawU
namespace Go.Proofs.Ytlkchocjldllgaa
open Go.RowKit

set_option maxHeartbeats 1600000 in
theorem drawAdd_any (v : Value) (bs : List Int) (w : World) (hv : SlR bc 1 w w.heap.size v bs) (hm : bs.length ≤ 9223372036854775807 ∧ ∀ n ∈ bs, 0 ≤ n ∧ n ≤ 255) :
    Calls Try.prog 43 #[v] w (DrawnT (fun u => ∃ r : Rt, u = .agg #[.int .i64 r.pre, .int .i64 r.bits, .int .i64 r.hop]) w) := by
  obtain ⟨wb, hwb⟩ : ∃ wb, wb = (w.alloc (Obj.cells #[.slice none 0 0, .slice none 0 0] 30)).alloc (Obj.cells #[.int .i64 0, .int .i64 0, .int .i64 0] 40) := ⟨_, rfl⟩
  have hb0 : Below w.heap.size w wb := by rw [hwb]; exact below2 _ _ _
  have hO0 : Blk wb w.heap.size 30 #[.slice none 0 0, .slice none 0 0] := by rw [hwb]; exact (Blk.new _ _ _).alloc _
  have hQ0 : Blk wb (w.heap.size + 1) 40 #[.int .i64 0, .int .i64 0, .int .i64 0] := by
    rw [hwb]
    have h := Blk.new (w.alloc (Obj.cells #[.slice none 0 0, .slice none 0 0] 30)) 40 #[.int .i64 0, .int .i64 0, .int .i64 0]
    simpa using h
  go_enter Try.func43, Try.ntmps43
  go_upto_region 1 with fail
  rw [← hwb]
  clear hwb
  go_wp2_with fail
  refine (open_any v bs _ (hv.up hb0) hm).mono ?_
  rintro e w1 ⟨g, bs', rfl, hgw, hR1, hb1⟩
  have hQl := hQ0.lt
  have hgl : w.heap.size + 1 < g := by omega
  have hb01 := hb0.trans (hb1.mono hb0.size)
  have hO1 := hO0.up hb1
  have hQ1 := hQ0.up hb1
  have hg1w := hR1.lt
  have h01 : w.heap.size + 1 < w1.heap.size := hQ1.lt
  clear hO0 hQ0 hb1 hb0
  go_wp2_with fail
  refine (drawTable_any bs' g 0 _ hR1 (by omega)).mono ?_
  rintro e w2 ⟨x, t, p2, rfl, hT2, ⟨hl1, hl2⟩, hR2, hp2, hg2⟩
  have hO2 := hO1.grown hg2 (by intro h; injection h; omega)
  have hQ2 := hQ1.grown hg2 (by intro h; injection h; omega)
  have hb02 := below_g (by omega) hb01 hg2
  obtain ⟨x1, x2, rfl, hx1, hx2⟩ := hT2 w2 (Kept.refl _ _)
  obtain ⟨A1, c1, rfl, _⟩ := hx1.form
  obtain ⟨A2, c2, rfl, _⟩ := hx2.form
  clear hO1 hQ1 hR1 hb01 hg2 hx1 hx2
  go_upto_region 3 with fail
  obtain ⟨X, hX⟩ : ∃ X, X = w2.heap.size := ⟨_, rfl⟩
  obtain ⟨w3, hw3⟩ : ∃ w3, w3 = w2.alloc (Obj.cells #[.slice A1 t.routes.length c1, .slice A2 t.hops.length c2] 30) := ⟨_, rfl⟩
  have hX3 : Blk w3 X 30 #[.slice A1 t.routes.length c1, .slice A2 t.hops.length c2] := by rw [hw3, hX]; exact Blk.new _ _ _
  have hO3 : Blk w3 w.heap.size 30 #[.slice none 0 0, .slice none 0 0] := by rw [hw3]; exact hO2.alloc _
  have hQ3 : Blk w3 (w.heap.size + 1) 40 #[.int .i64 0, .int .i64 0, .int .i64 0] := by rw [hw3]; exact hQ2.alloc _
  have hR3 : Rd w3 g bs' p2 := by rw [hw3]; exact hR2.alloc _
  have hf3 : w2.grownBy w3 (some g) := by rw [hw3]; exact only_alloc (only_refl _ _) _
  have hb03 : Below w.heap.size w w3 := below_g (by omega) hb02 hf3
  have hgX : some X ≠ some g := by intro h; injection h; have := hR2.lt; omega
  have hgO : some w.heap.size ≠ some g := by intro h; injection h; omega
  have hgQ : some (w.heap.size + 1) ≠ some g := by intro h; injection h; omega
  have hXO : X ≠ w.heap.size := by have := hO2.lt; omega
  have hOX : w.heap.size ≠ X := Ne.symm hXO
  have hXQ : X ≠ w.heap.size + 1 := by have := hQ2.lt; omega
  have hQX : w.heap.size + 1 ≠ X := Ne.symm hXQ
  have hOQ : w.heap.size ≠ w.heap.size + 1 := by omega
  have hQO : w.heap.size + 1 ≠ w.heap.size := by omega
  rw [← hw3, ← hX]
  have t0 := hX3.cell 0
  have t1 := hX3.cell 1
  clear hw3 hX hO2 hQ2 hR2 hb02
  go_region_held3 (fun w' => w'.cell? ⟨X, 0, none⟩ = some (.slice A1 t.routes.length c1) ∧ w'.cell? ⟨X, 1, none⟩ = some (.slice A2 t.hops.length c2)) (first | go_keep | exact ⟨hX4.cell 0, hX4.cell 1⟩ | fail)
    (first
      | (go_at_call 72; refine (drawRoute_any bs' g p2 _ hR3.drew (by omega)).mono ?_; rintro e w4 ⟨r, p4, rfl, hR4, hp4, hg4⟩
         have hX4 := (show Blk w3.drew X 30 #[.slice A1 t.routes.length c1, .slice A2 t.hops.length c2] from hX3).grown hg4 hgX
         have hO4 := (show Blk w3.drew w.heap.size 30 #[.slice none 0 0, .slice none 0 0] from hO3).grown hg4 hgO
         have hQ4 := (show Blk w3.drew (w.heap.size + 1) 40 #[.int .i64 0, .int .i64 0, .int .i64 0] from hQ3).grown hg4 hgQ
         have o0 := hO4.cell 0
         have o1 := hO4.cell 1
         have y0 := hO4.free 0
         have y1 := hO4.free 1
         have k0 := hQ4.cell 0
         have k1 := hQ4.cell 1
         have k2 := hQ4.cell 2
         have z0 := hQ4.free 0
         have z1 := hQ4.free 1
         have z2 := hQ4.free 2
         have s0 := hX4.cell 0
         have s1 := hX4.cell 1)
      | fail)
  have hg4' : w3.grownBy w4 (some g) := ⟨hg4.os, hg4.tape, hg4.output, hg4.size, hg4.block⟩
  have hb04 := below_g (by omega) hb03 hg4'
  have hK := (Kept.of_grown (a := w1.heap.size) (only_trans hf3 hg4') hg1w)
  obtain ⟨wf, hwf⟩ : ∃ wf, wf = ((((w4.setCell ⟨w.heap.size, 0, none⟩ (.slice A1 t.routes.length c1)).setCell ⟨w.heap.size, 1, none⟩ (.slice A2 t.hops.length c2)).setCell ⟨w.heap.size + 1, 0, none⟩ (.int .i64 r.pre)).setCell ⟨w.heap.size + 1, 1, none⟩ (.int .i64 r.bits)).setCell ⟨w.heap.size + 1, 2, none⟩ (.int .i64 r.hop) := ⟨_, rfl⟩
  have h00 : w.heap.size < w1.heap.size := by omega
  have hK2 : Kept w1.heap.size w2 wf := by
    rw [hwf]
    exact ((((hK.trans (Kept.of_set (p := ⟨w.heap.size, 0, none⟩) h00 _)).trans (Kept.of_set (p := ⟨w.heap.size, 1, none⟩) h00 _)).trans (Kept.of_set (p := ⟨w.heap.size + 1, 0, none⟩) h01 _)).trans (Kept.of_set (p := ⟨w.heap.size + 1, 1, none⟩) h01 _)).trans (Kept.of_set (p := ⟨w.heap.size + 1, 2, none⟩) h01 _)
  have hT4 : ∀ W', Kept w.heap.size wf W' → TbR W' W'.heap.size (.agg #[.slice A1 t.routes.length c1, .slice A2 t.hops.length c2]) t := fun W' hk => hT2 W' (hK2.trans (Kept.mono hk (by omega)))
  have hbf : Below w.heap.size w wf := by rw [hwf]; exact ((((hb04.setCell (Nat.le_refl _) _).setCell (Nat.le_refl _) _).setCell (Nat.le_succ _) _).setCell (Nat.le_succ _) _).setCell (Nat.le_succ _) _
  have BO : Blk wf w.heap.size 30 #[.slice A1 t.routes.length c1, .slice A2 t.hops.length c2] := by rw [hwf]; exact (((((hO4.put 0 _).put 1 _).far hOQ _).far hOQ _).far hOQ _)
  have BQ : Blk wf (w.heap.size + 1) 40 #[.int .i64 r.pre, .int .i64 r.bits, .int .i64 r.hop] := by rw [hwf]; exact ((((hQ4.far hQO _).far hQO _).put 0 _).put 1 _).put 2 _
  rw [← hwf]
  clear hwf hX4 hO4 hQ4 hO3 hQ3 hX3 t0 t1 hT2 hR3 hg4 hR4 o0 o1 y0 y1 k0 k1 k2 z0 z1 z2 s0 s1
  have o0 := BO.cell 0
  have o1 := BO.cell 1
  have k0 := BQ.cell 0
  have k1 := BQ.cell 1
  have k2 := BQ.cell 2
  go_wp2_with fail
  refine bodyPost_ret (v := .tuple #[.agg #[.slice A1 t.routes.length c1, .slice A2 t.hops.length c2], .agg #[.int .i64 r.pre, .int .i64 r.bits, .int .i64 r.hop]]) (by simp [results, Try.results43, go_sem, o0, o1, k0, k1, k2]) rfl ⟨_, _, t, rfl, ⟨r, rfl⟩, hT4, ⟨hl1, hl2⟩, hbf⟩
end Go.Proofs.Ytlkchocjldllgaa
