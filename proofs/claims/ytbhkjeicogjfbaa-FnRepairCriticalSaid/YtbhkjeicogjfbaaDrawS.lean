/- Drawing a spoilt graph. Conditions: the reader's place is at most 1000. -/
import Derived.Test.YtbhkjeicogjfbaaDrawN
import Derived.Deep.RegionHeld3
namespace Go.Proofs.Ytbhkjeicogjfbaa
open Go.RowKit

section
variable {w0 W W' : World} {g T pm p : Nat} {n : Int} {bs : List Int} {v2 : Value} {ls : List Lk}
theorem DG.setL {go c k j : Nat} {x y : Lk} {u : Value} (h : DG w0 g T bs pm n W p (.slice (some ⟨go, 0, none⟩) ls.length c) ls) (hk : ls[k]? = some x) (hj : j < 3) (he : lc y = (lc x).set j u) (hgl : g < w0.heap.size) :
    DG w0 g T bs pm n (W.setCell ⟨go, k * 3 + j, none⟩ u) p (.slice (some ⟨go, 0, none⟩) ls.length c) (ls.set k y) := by
  have hgo := (World.ownsRow.lt h.o go rfl).1
  have n2 : go ≠ T := fun e => own_blk_ne h.o h.bt (by decide) (by rw [e]; rfl)
  have n3 : go ≠ w0.heap.size := fun e => own_blk_ne h.o h.bo (by decide) (by rw [e]; rfl)
  have s1 := h.o.set lc_len (k := k) (j := j) (x := x) (y := y) (u := u) rfl hk hj he
  exact ⟨h.rd.far (by simp; omega) _, h.pm, h.bt.far (Ne.symm n2) _, h.bo.far (Ne.symm n3) _, s1, by have := h.l; simpa using this, only_setCell h.fr (.inr hgo) _⟩
theorem DG.app' {v3 : Value} {ls' : List Lk} (h : DG w0 g T bs pm n W p v2 ls) (hg : W.grownBy W' v2.ownBlock) (ho : Own lc 64 3 W' w0.heap.size v3 ls') (hgl : g < w0.heap.size) (hwT : w0.heap.size < T) :
    Rd (W'.setCell ⟨T, 1, none⟩ v3) g bs p ∧ Blk (W'.setCell ⟨T, 1, none⟩ v3) T 25 #[.int .i64 n, v3] ∧ Blk (W'.setCell ⟨T, 1, none⟩ v3) w0.heap.size 25 #[.int .i64 0, .slice none 0 0] ∧
    Own lc 64 3 (W'.setCell ⟨T, 1, none⟩ v3) w0.heap.size v3 ls' ∧ w0.grownBy (W'.setCell ⟨T, 1, none⟩ v3) (some g) ∧ Blk W' T 25 #[.int .i64 n, v2] := by
  have hlo : ∀ k, v2.ownBlock = some k → w0.heap.size ≤ k := fun k hk => (World.ownsRow.lt h.o k hk).1
  have bt := h.bt.grown hg (Ne.symm (own_blk_ne h.o h.bt (by decide)))
  have bo := h.bo.grown hg (Ne.symm (own_blk_ne h.o h.bo (by decide)))
  have n1 := own_blk_ne ho bt (by decide)
  exact ⟨(h.rd.own hg hlo hgl).far (by simp; omega) _, bt.put 1 _, bo.far (by simp; omega) _, own_far' ho n1 _, only_setCell (only_own h.fr hg hlo) (.inr (by simp; omega)) _, bt⟩
end
theorem tri : ∀ j : Nat, j < 3 → ∃ x : Int, (#[.int .i64 0, .int .i64 20, .int .i64 21] : Array Value)[j]? = some (.int .i64 x)
  | 0, _ => ⟨0, rfl⟩
  | 1, _ => ⟨20, rfl⟩
  | 2, _ => ⟨21, rfl⟩
  | n + 3, h => by omega
set_option maxRecDepth 100000 in
set_option maxHeartbeats 1600000 in
theorem drawSpoilt_any (bs : List Int) (g p : Nat) (w : World) (hR : Rd w g bs p) (hp : p ≤ 1000) :
    Calls Try.prog 51 #[.pointer (some ⟨g, 0, none⟩)] w (DrawGPost bs g p 15 1010 w) := by
  have hgl := hR.lt
  have hb0 := below1 w (Obj.cells #[.int .i64 0, .slice none 0 0] 25)
  have hR0 := hR.below hb0
  have HB0 := hide (Blk.new w 25 #[.int .i64 0, .slice none 0 0])
  go_enter Try.func51, Try.ntmps51
  go_wp2_with fail
  refine (drawGraph_any bs g p _ hR0 (by omega)).mono ?_
  rintro e w1 ⟨v1, gr, p1, rfl, hO1, hl1, R1, hp1, hg1⟩
  obtain ⟨A, cap, rfl⟩ := hO1.lit
  obtain ⟨v2, he, hO⟩ := hO1
  cases he
  have HB1 := hide (HB0.out.grown hg1 (by intro e; injection e with e; omega))
  have hw1 : w.heap.size < w1.heap.size := HB1.out.lt
  obtain ⟨T, hT⟩ : ∃ T, T = w1.heap.size := ⟨_, rfl⟩
  obtain ⟨wb, hwb⟩ : ∃ wb, wb = w1.alloc (Obj.cells #[.int .i64 gr.n, .slice A gr.ls.length cap] 25) := ⟨_, rfl⟩
  have hgT : g < T := by omega
  have hwT : w.heap.size < T := by omega
  obtain ⟨n, ls⟩ := gr
  simp only at hO hl1 hwb
  have HD : Hid (DG w g T bs p1 n wb p1 (.slice A ls.length cap) ls) := hide (by
    rw [hwb, hT]
    exact ⟨R1.alloc _, Nat.le_refl _, Blk.new _ _ _, HB1.out.alloc _, (hO.below (below1 w1 _)).low (by simp), hl1, only_below (only_trans (only_below (only_refl _ _) hb0) hg1) (below1 w1 _)⟩)
  clear HB0 HB1 R1 hg1 hb0 hR0 hO hw1
  go_upto_region 2 with fail
  rw [← hwb, ← hT]
  clear hwb hT
  have c0 := HD.out.bt.cell 0
  have c1 := HD.out.bt.cell 1
  have HLN : Hid (ls.length ≤ 15) := hide (by omega)
  by_cases h0 : ls.length = 0
  · have e0 : ((ls.length : Int) == 0) = true := by simp [h0]
    clear h0
    have o0 := HD.out.bo.cell 0
    have o1 := HD.out.bo.cell 1
    have y0 := HD.out.bo.free 0
    have y1 := HD.out.bo.free 1
    have tq0 := HD.out.bt.cell 0
    have tq1 := HD.out.bt.cell 1
    go_wp2_with fail
    refine bodyPost_ret (v := .agg #[.int .i64 (n), .slice A ls.length cap]) (by simp [results, Try.results51, go_sem, o0, o1]) rfl ⟨_, ⟨n, ls⟩, _, rfl, ⟨_, rfl, own_far' (own_far' HD.out.o (own_blk_ne HD.out.o HD.out.bo (by decide)) _) (own_blk_ne HD.out.o HD.out.bo (by decide)) _⟩, HLN.out, (HD.out.rd.far (by simp; omega) _).far (by simp; omega) _, by omega, only_setCell (only_setCell HD.out.fr (.inr (Nat.le_refl _)) _) (.inr (Nat.le_refl _)) _⟩
  have e0 : ((ls.length : Int) == 0) = false := by rw [beq_eq_false_iff_ne]; omega
  obtain ⟨go, hA⟩ : ∃ go, A = some ⟨go, 0, none⟩ := by
    obtain ⟨g', cap', hh, _⟩ := HD.out.o.form (by omega)
    injection hh with h1 _ _
    exact ⟨_, h1⟩
  subst hA
  go_wp2_with fail
  refine (pick_any bs g _ _ _ HD.out.rd (by omega)).mono ?_
  rintro e w2 ⟨r2, rfl, ⟨h20, h21⟩, R2, hg2⟩
  have h22 := h21 (by omega)
  obtain ⟨k, rfl⟩ := Int.eq_ofNat_of_zero_le h20
  have hkl : k < ls.length := by omega
  have HD2 := hide (HD.out.pick hg2 R2 hgl hgT)
  clear HD hg2 R2 h21 c0 c1 h20 h22
  go_wp2_with fail
  refine (pick_any bs g _ _ _ HD2.out.rd (by omega)).mono ?_
  rintro e w3 ⟨r3, rfl, ⟨h30, h31⟩, R3, hg3⟩
  have HD3 := hide (HD2.out.pick hg3 R3 hgl hgT)
  clear HD2 hg3 R3 h31
  obtain ⟨l, hck⟩ := get_some hkl
  have HC := hide hck
  clear hck
  have hgo := (World.ownsRow.lt HD3.out.o go rfl).1
  have hgoT : go ≠ T := fun e => own_blk_ne HD3.out.o HD3.out.bt (by decide) (by rw [e]; rfl)
  have hgoW : go ≠ w.heap.size := fun e => own_blk_ne HD3.out.o HD3.out.bo (by decide) (by rw [e]; rfl)
  by_cases h1 : r3 = 0
  · have e1 : (r3 == 0) = true := by simp [h1]
    clear h1
    have c0 := HD3.out.bt.cell 0
    have c1 := HD3.out.bt.cell 1
    have hl3 := World.block_lt_of_cell? w3 _ c0
    go_upto_region 7 with fail
    have HNW : Hid (∀ X : World, Blk (X.alloc (Obj.cells #[.int .i64 0, .int .i64 20, .int .i64 21] 3)) X.heap.size 3 #[.int .i64 0, .int .i64 20, .int .i64 21]) := hide fun X => Blk.new X _ _
    have c2 := fun o => (HD3.out.below (below1 w3 o)).bt.cell 1
    go_region_law (first
        | (go_simp; go_at_call 91; refine (pick_any bs g (p1 + 1 + 1) _ _ ?_ (by omega)).mono ?_
           · first | exact HD3.out.rd.drew | exact (HD3.out.drew.below (below1 _ _)).rd
           rintro e w4 ⟨r4, rfl, ⟨h40, h41⟩, R4, hg4⟩
           have h42 := h41 (by omega)
           obtain ⟨j, rfl⟩ := Int.eq_ofNat_of_zero_le h40
           have hj3 : j < 3 := by omega
           obtain ⟨x, hx⟩ := tri j hj3
           have D4 : DG w g T bs (p1 + 1 + 1 + 1) n w4 (p1 + 1 + 1 + 1) (.slice (some ⟨go, 0, none⟩) ls.length cap) ls := by first | exact HD3.out.drew.pick hg4 R4 hgl hgT | exact (HD3.out.drew.below (below1 _ _)).pick hg4 R4 hgl hgT
           have c3 := D4.bt.cell 1
           have c4 := fun o => (D4.below (below1 w4 o)).bt.cell 1
           have hgw3 : g < w3.heap.size := Nat.lt_of_lt_of_le hgl HD3.out.fr.size
           try (have B4 := (HNW.out w3.drew).grown hg4 (by intro e; injection e with e; have e' : w3.heap.size = g := e; omega))
           have B5 := HNW.out w4
           try (have q0 : w4.cell? ⟨w3.heap.size, j, none⟩ = some (.int .i64 x) := (B4.cell j).trans hx)
           have q3 := (B5.cell j).trans hx
           clear hx
           obtain ⟨g1, g2, g3⟩ := linkAt (D4.o.rows lc_len (by omega)) HC.out
           rw [Nat.zero_add] at g1 g2 g3
           have z3 := World.ownsRow.frozenAt D4.o (k * 3 + 2)
           have g4 := fun o => (World.cell?_of_block (Below.heap_alloc w4 o go (World.ownsRow.lt D4.o go rfl).2)).trans g3
           have z4 := fun o => World.ownsRow.frozenAt (D4.below (below1 w4 o)).o (k * 3 + 2))
        | fail)
    all_goals
      have HLS : Hid ((ls.set k ⟨l.a, l.b, x⟩).length ≤ 15) := hide (by rw [List.length_set]; exact HLN.out)
      first
        | (obtain ⟨wz, hwz⟩ : ∃ wz, wz = w4.setCell ⟨go, k * 3 + 2, none⟩ (.int .i64 x) := ⟨_, rfl⟩
           rw [← hwz]
           have HDZ : Hid (DG w g T bs (p1 + 1 + 1 + 1) n wz (p1 + 1 + 1 + 1) (.slice (some ⟨go, 0, none⟩) ls.length cap) (ls.set k ⟨l.a, l.b, x⟩)) := hide (by rw [hwz]; exact D4.setL HC.out (by decide) rfl hgl))
        | (obtain ⟨wz, hwz⟩ : ∃ wz, wz = (w4.alloc (Obj.cells #[.int .i64 0, .int .i64 20, .int .i64 21] 3)).setCell ⟨go, k * 3 + 2, none⟩ (.int .i64 x) := ⟨_, rfl⟩
           rw [← hwz]
           have HDZ : Hid (DG w g T bs (p1 + 1 + 1 + 1) n wz (p1 + 1 + 1 + 1) (.slice (some ⟨go, 0, none⟩) ls.length cap) (ls.set k ⟨l.a, l.b, x⟩)) := hide (by rw [hwz]; exact (D4.below (below1 w4 _)).setL HC.out (by decide) rfl hgl))
      clear hwz D4 R4 hg4 g1 g2 g3 g4 z3 z4 q3 c0 c1 c2 c3 c4 h40 h41 h42
      try clear B4 q0
      try clear B5
      have o0 := HDZ.out.bo.cell 0
      have o1 := HDZ.out.bo.cell 1
      have y0 := HDZ.out.bo.free 0
      have y1 := HDZ.out.bo.free 1
      have tq0 := HDZ.out.bt.cell 0
      have tq1 := HDZ.out.bt.cell 1
      go_wp2_with fail
      refine bodyPost_ret (v := .agg #[.int .i64 (n), .slice (some ⟨go, 0, none⟩) ls.length cap]) (by simp [results, Try.results51, go_sem, o0, o1]) rfl ⟨_, ⟨n, ls.set k ⟨l.a, l.b, x⟩⟩, _, rfl, ⟨_, rfl, own_far' (own_far' HDZ.out.o (own_blk_ne HDZ.out.o HDZ.out.bo (by decide)) _) (own_blk_ne HDZ.out.o HDZ.out.bo (by decide)) _⟩, HLS.out, (HDZ.out.rd.far (by simp; omega) _).far (by simp; omega) _, by omega, only_setCell (only_setCell HDZ.out.fr (.inr (Nat.le_refl _)) _) (.inr (Nat.le_refl _)) _⟩
  have e1 : (r3 == 0) = false := by simp [h1]
  clear h1
  by_cases h2 : r3 = 1
  · have e2 : (r3 == 1) = true := by simp [h2]
    clear h2
    have c1 := HD3.out.bt.cell 1
    go_upto_region 9 with fail
    go_region_law (first
        | (go_simp; go_at_call 91; refine (pick_any bs g (p1 + 1 + 1) _ _ ?_ (by omega)).mono ?_
           · exact HD3.out.rd.drew
           rintro e w4 ⟨x, rfl, hx, R4, hg4⟩
           have D4 : DG w g T bs (p1 + 1 + 1 + 1) n w4 (p1 + 1 + 1 + 1) (.slice (some ⟨go, 0, none⟩) ls.length cap) ls := HD3.out.drew.pick hg4 R4 hgl hgT
           have c3 := D4.bt.cell 1
           obtain ⟨g1, g2, g3⟩ := linkAt (D4.o.rows lc_len (by omega)) HC.out
           rw [Nat.zero_add] at g1 g2 g3
           have z3 := World.ownsRow.frozenAt D4.o (k * 3 + 1))
        | fail)
    all_goals
      have HLS : Hid ((ls.set k ⟨l.a, x, l.c⟩).length ≤ 15) := hide (by rw [List.length_set]; exact HLN.out)
      obtain ⟨wz, hwz⟩ : ∃ wz, wz = w4.setCell ⟨go, k * 3 + 1, none⟩ (.int .i64 x) := ⟨_, rfl⟩
      rw [← hwz]
      have HDZ : Hid (DG w g T bs (p1 + 1 + 1 + 1) n wz (p1 + 1 + 1 + 1) (.slice (some ⟨go, 0, none⟩) ls.length cap) (ls.set k ⟨l.a, x, l.c⟩)) := hide (by rw [hwz]; exact D4.setL HC.out (by decide) rfl hgl)
      clear hwz D4 R4 hg4 g1 g2 g3 z3 c1 c3 hx
      have o0 := HDZ.out.bo.cell 0
      have o1 := HDZ.out.bo.cell 1
      have y0 := HDZ.out.bo.free 0
      have y1 := HDZ.out.bo.free 1
      have tq0 := HDZ.out.bt.cell 0
      have tq1 := HDZ.out.bt.cell 1
      go_wp2_with fail
      refine bodyPost_ret (v := .agg #[.int .i64 (n), .slice (some ⟨go, 0, none⟩) ls.length cap]) (by simp [results, Try.results51, go_sem, o0, o1]) rfl ⟨_, ⟨n, ls.set k ⟨l.a, x, l.c⟩⟩, _, rfl, ⟨_, rfl, own_far' (own_far' HDZ.out.o (own_blk_ne HDZ.out.o HDZ.out.bo (by decide)) _) (own_blk_ne HDZ.out.o HDZ.out.bo (by decide)) _⟩, HLS.out, (HDZ.out.rd.far (by simp; omega) _).far (by simp; omega) _, by omega, only_setCell (only_setCell HDZ.out.fr (.inr (Nat.le_refl _)) _) (.inr (Nat.le_refl _)) _⟩
  have e2 : (r3 == 1) = false := by simp [h2]
  clear h2
  by_cases h3 : r3 = 2
  · have e3 : (r3 == 2) = true := by simp [h3]
    clear h3
    go_wp2_with fail
    refine (pick_any bs g (p1 + 1 + 1) _ _ HD3.out.rd (by omega)).mono ?_
    rintro e w4 ⟨x, rfl, hx, R4, hg4⟩
    have HD4 := hide (HD3.out.pick hg4 R4 hgl hgT)
    have c0 := HD4.out.bt.cell 0
    have z0 := HD4.out.bt.free 0
    clear hg4 R4 hx HD3
    go_upto_region 14 with fail
    obtain ⟨wz, hwz⟩ : ∃ wz, wz = w4.setCell ⟨T, 0, none⟩ (.int .i64 x) := ⟨_, rfl⟩
    rw [← hwz]
    have HDZ := hide (HD4.out.setN (n' := x) hgl hwT)
    rw [← hwz] at HDZ
    clear hwz HD4 c0 z0
    have o0 := HDZ.out.bo.cell 0
    have o1 := HDZ.out.bo.cell 1
    have y0 := HDZ.out.bo.free 0
    have y1 := HDZ.out.bo.free 1
    have tq0 := HDZ.out.bt.cell 0
    have tq1 := HDZ.out.bt.cell 1
    go_wp2_with fail
    refine bodyPost_ret (v := .agg #[.int .i64 (x), .slice (some ⟨go, 0, none⟩) ls.length cap]) (by simp [results, Try.results51, go_sem, o0, o1]) rfl ⟨_, ⟨x, ls⟩, _, rfl, ⟨_, rfl, own_far' (own_far' HDZ.out.o (own_blk_ne HDZ.out.o HDZ.out.bo (by decide)) _) (own_blk_ne HDZ.out.o HDZ.out.bo (by decide)) _⟩, HLN.out, (HDZ.out.rd.far (by simp; omega) _).far (by simp; omega) _, by omega, only_setCell (only_setCell HDZ.out.fr (.inr (Nat.le_refl _)) _) (.inr (Nat.le_refl _)) _⟩
  have e3 : (r3 == 2) = false := by simp [h3]
  clear h3
  by_cases h4 : r3 = 3
  · have e4 : (r3 == 3) = true := by simp [h4]
    clear h4
    have c1 := HD3.out.bt.cell 1
    obtain ⟨g1, g2, g3⟩ := linkAt (HD3.out.o.rows lc_len (by omega)) HC.out
    rw [Nat.zero_add] at g1 g2 g3
    have D3 := (HD3.out.below (below1 w3 (Obj.cells #[.int .i64 l.a, .int .i64 l.b, .int .i64 l.c] 64))).drew
    have c2 := D3.bt.cell 1
    have hlo := HD3.out.fr.size
    have hl14 := HD3.out.l
    go_upto_region 13 with fail
    go_region_law (first
        | (refine step_app (by rfl) infLk (.tmp 48) (.tmp 54) (by rfl) _ _ (by rfl) (by rfl) w.heap.size (w3.heap.size + 1) ls [l] ?_ ?_ ?_ ?_ ?_
           · exact D3.o
           · exact slr_one (Blk.new w3 64 #[.int .i64 l.a, .int .i64 l.b, .int .i64 l.c]) rfl (by omega)
           · simp; omega
           · simp; omega
           intro A4 c4 w4 hO4 hg4 hd4
           obtain ⟨q1, q2, q3, q4, q5, B4⟩ := D3.app' hg4 hO4 hgl hwT
           have c5 := B4.cell 1
           have z5 := B4.free 1)
        | fail)
    all_goals
      obtain ⟨wz, hwz⟩ : ∃ wz, wz = w4.setCell ⟨T, 1, none⟩ (.slice A4 (ls.length + [l].length) c4) := ⟨_, rfl⟩
      rw [← hwz] at q1 q2 q3 q4 q5
      have HQ1 := hide q1
      have HQ2 := hide q2
      have HQ3 := hide q3
      have HQ4 := hide q4
      have HQ5 := hide q5
      have HLS : Hid ((ls ++ [l]).length ≤ 15) := hide (by simp; omega)
      first | rw [← hwz] | (simp only [List.length_cons, List.length_nil, Nat.zero_add] at hwz; rw [← hwz])
      clear hwz D3 c1 c2 c5 z5 B4 q1 q2 q3 q4 q5 hO4 hg4 hd4 g1 g2 g3
      have o0 := HQ3.out.cell 0
      have o1 := HQ3.out.cell 1
      have y0 := HQ3.out.free 0
      have y1 := HQ3.out.free 1
      have tq0 := HQ2.out.cell 0
      have tq1 := HQ2.out.cell 1
      go_wp2_with fail
      refine bodyPost_ret (v := .agg #[.int .i64 (n), .slice A4 (ls.length + [l].length) c4]) (by simp [results, Try.results51, go_sem, o0, o1]) rfl ⟨_, ⟨n, ls ++ [l]⟩, _, rfl, ⟨_, rfl, own_far' (own_far' HQ4.out (own_blk_ne HQ4.out HQ3.out (by decide)) _) (own_blk_ne HQ4.out HQ3.out (by decide)) _⟩, HLS.out, (HQ1.out.far (by simp; omega) _).far (by simp; omega) _, by omega, only_setCell (only_setCell HQ5.out (.inr (Nat.le_refl _)) _) (.inr (Nat.le_refl _)) _⟩
  have e4 : (r3 == 3) = false := by simp [h4]
  clear h4
  have o0 := HD3.out.bo.cell 0
  have o1 := HD3.out.bo.cell 1
  have y0 := HD3.out.bo.free 0
  have y1 := HD3.out.bo.free 1
  have tq0 := HD3.out.bt.cell 0
  have tq1 := HD3.out.bt.cell 1
  go_wp2_with fail
  refine bodyPost_ret (v := .agg #[.int .i64 (n), .slice (some ⟨go, 0, none⟩) ls.length cap]) (by simp [results, Try.results51, go_sem, o0, o1]) rfl ⟨_, ⟨n, ls⟩, _, rfl, ⟨_, rfl, own_far' (own_far' HD3.out.o (own_blk_ne HD3.out.o HD3.out.bo (by decide)) _) (own_blk_ne HD3.out.o HD3.out.bo (by decide)) _⟩, HLN.out, (HD3.out.rd.far (by simp; omega) _).far (by simp; omega) _, by omega, only_setCell (only_setCell HD3.out.fr (.inr (Nat.le_refl _)) _) (.inr (Nat.le_refl _)) _⟩
end Go.Proofs.Ytbhkjeicogjfbaa
