/- The laws FnOrderFar, FnOrderNodes and FnOrderNone, walked: they return true for every code. Conditions: none. -/
import Derived.Test.YtgaipicebjklaaaDrawQ
import Derived.Test.YtgaipicebjklaaaExG
import Derived.Test.YtgaipicebjklaaaLawH
import Derived.Test.YtgaipicebjklaaaOrdS
namespace Go.Proofs.Ytgaipicebjklaaa
open Go.RowKit
theorem ins_fin {d : Int → Int} {L : List Int} {i : Nat} (ha : L.Pairwise (· < ·)) : ∀ (j : Nat) (M : List Int), Ins d L i j M → ∃ M', Srt d L (i + 1) M'
  | 0, M, h => ⟨M, ins_stop ha h fun _ _ h0 => by omega⟩
  | j + 1, M, h => by
    obtain ⟨z, x, hz, hx, hs⟩ := ins_at h (by omega)
    by_cases hd : d z < d x
    · exact ins_fin ha j _ (hs hd)
    · exact ⟨M, ins_stop ha h fun z' x' _ h1 h2 => by rw [hz] at h1; rw [hx] at h2; cases h1; cases h2; exact hd⟩
theorem srt_ex {d : Int → Int} {L : List Int} (ha : L.Pairwise (· < ·)) : ∀ i, 1 ≤ i → i ≤ L.length → ∃ M, Srt d L i M
  | 0, h, _ => by omega
  | 1, _, _ => ⟨L, srt_start d L⟩
  | i + 2, _, h => by
    obtain ⟨M, hM⟩ := srt_ex ha (i + 1) (by omega) (by omega)
    exact ins_fin ha _ M (ins_start hM (by omega))
theorem sort_ex (d : Int → Int) {L : List Int} (ha : L.Pairwise (· < ·)) : ∃ M : List Int, M.Perm L ∧ M.Pairwise (Bd2 d) := by
  by_cases h : 1 ≤ L.length
  · obtain ⟨M, hM⟩ := srt_ex (d := d) ha _ h (Nat.le_refl _)
    exact ⟨M, srt_end hM (Nat.le_refl _)⟩
  · exact ⟨L, srt_end (srt_start d L) (by omega)⟩
theorem ordX_ord {g : Gr} {k t : Int} (h : Ok g t k) : OrdL g (lkOf g k) t (ordX g k t) ∧ (ordX g k t).Perm (selTo (UsT g (lkOf g k) t) g.n.toNat) := by
  obtain ⟨M, h1, h2⟩ := sort_ex (D g t) (selTo_asc (UsT g (lkOf g k) t) g.n.toNat)
  have hM := ord_sorted h ⟨h1, h2⟩
  rw [ordX_is h hM]
  exact ⟨hM, h1⟩
theorem ordX_len (g : Gr) (k t : Int) : (ordX g k t).length ≤ 8 := by
  by_cases h : Ok g t k
  · rw [(ordX_ord h).2.length_eq]
    exact selTo_le _ _ (by have := h.1.n; omega)
  · rw [ordX_no h]; simp
set_option maxRecDepth 100000 in
set_option maxHeartbeats 1600000 in
theorem lawOrderFar (v : Value) (bs : List Int) (w : World) (hv : SlR bc 1 w w.heap.size v bs) (hm : bs.length ≤ 9223372036854775807 ∧ ∀ n ∈ bs, 0 ≤ n ∧ n ≤ 255) :
    Calls Try.prog 9 #[v] w fun e w' => e = .returned (.bool true) ∧ Below w.heap.size w w' := by
  by_cases hl : 1048576 < bs.length
  · obtain ⟨A, cap, rfl, hc, hr⟩ := hv
    clear hr hm
    go_enter Try.func9, Try.ntmps9
    go_wp2
    go_ret
    exact ⟨rfl, Below.refl _ _⟩
  have hvv := hv
  obtain ⟨A, cap, rfl, hc, hr⟩ := hvv
  have HM := hide hm
  clear hm hr hc
  go_enter Try.func9, Try.ntmps9
  go_wp2_with fail
  refine (drawUO_any _ bs _ hv HM.out).mono ?_
  rintro e w1 ⟨x1, g, f, k, rfl, hO1, hl15, hb1⟩
  obtain ⟨Ag, cg, rfl⟩ := hO1.lit
  obtain ⟨X, hX⟩ : ∃ X, X = w1.heap.size := ⟨_, rfl⟩
  obtain ⟨w2, hw2⟩ : ∃ w2, w2 = w1.alloc (Obj.cells #[.int .i64 g.n, .slice Ag g.ls.length cg] 25) := ⟨_, rfl⟩
  have h12 : Below w1.heap.size w1 w2 := by rw [hw2]; exact below1 _ _
  have HX2 := hide (show Blk w2 X 25 #[.int .i64 g.n, .slice Ag g.ls.length cg] from by rw [hw2, hX]; exact Blk.new _ _ _)
  have HG2 := hide (hO1.grr.up h12)
  have hb2 := hb1.trans (h12.mono hb1.size)
  have hn : g.ls.length ≤ 1048576 := by omega
  have c0 := HX2.out.cell 0
  have c1 := HX2.out.cell 1
  clear hO1 hb1 h12 HM
  go_upto_region 4 with fail
  rw [← hw2, ← hX]
  clear hw2 hX
  obtain ⟨R, hR⟩ : ∃ R, ordX g f k = R := ⟨_, rfl⟩
  have HR := hide hR
  have hlo : R.length ≤ 1048576 := by rw [← hR]; exact Nat.le_trans (ordX_len g f k) (by decide)
  clear hR
  go_wp2_with fail
  refine (updateOrder_any _ g f k _ HG2.out hn).mono ?_
  rintro e w3 ⟨y3, rfl, hO3, hb3⟩
  rw [HR.out] at hO3
  obtain ⟨A3, k3, rfl, _, _⟩ := hO3.lit
  have HX3 := hide (HX2.out.up hb3)
  have HG3 := hide (HG2.out.up hb3)
  have hb03 := hb2.trans (hb3.mono hb2.size)
  clear c0 c1 HX2 HG2 hb2
  have c0 := HX3.out.cell 0
  have c1 := HX3.out.cell 1
  go_wp2_with fail
  refine (specOrder_any _ g f k _ HG3.out hn).mono ?_
  rintro e w4 ⟨y4, rfl, hO4, hb4⟩
  rw [HR.out] at hO4
  obtain ⟨A4, k4, rfl, _, _⟩ := hO4.lit
  have HX4 := hide (HX3.out.up hb4)
  have HG4 := hide (HG3.out.up hb4)
  have HO4 := hide (hO3.below hb4)
  have HW4 := hide hO4
  have hb04 := hb03.trans (hb4.mono hb03.size)
  clear c0 c1 HX3 HG3 hb03 hO3 hO4 hb3 hb4
  have c0 := HX4.out.cell 0
  have c1 := HX4.out.cell 1
  go_wp2_with fail
  refine (same_any _ _ R R _ (HO4.out.slr ic_len) (HW4.out.slr ic_len) hlo hlo).mono ?_
  rintro e w5 ⟨rfl, hb5⟩
  rw [eqB_self]
  have HX5 := hide (HX4.out.up hb5)
  have HG5 := hide (HG4.out.up hb5)
  have HO5 := hide (HO4.out.below hb5)
  have HW5 := hide (HW4.out.below hb5)
  have hb05 := hb04.trans (hb5.mono hb04.size)
  clear c0 c1 HX4 HG4 HO4 HW4 hb04 hb5
  have c0 := HX5.out.cell 0
  have c1 := HX5.out.cell 1
  go_upto_region 9 with fail
  clear c0 c1
  go_loopg [8] (R.length) (fun gg iv wr => ∃ j : Nat, j + gg = R.length ∧ iv = .int .i64 ((j : Int) + 1) ∧ Below w5.heap.size w5 wr)
  case atStart => exact ⟨0, by omega, rfl, Below.refl _ _⟩
  case round =>
    obtain ⟨j, hj, rfl, hbe⟩ := hrel
    by_cases hlt : j + 1 < R.length
    · have hK : Ok g k f := Classical.byContradiction fun h => by
        have := HR.out
        rw [ordX_no h] at this
        rw [← this] at hlt
        simp at hlt
      have hord := (ordX_ord hK).1
      rw [HR.out] at hord
      obtain ⟨x, hx⟩ := get_some (show j < R.length by omega)
      obtain ⟨y, hy⟩ := get_some hlt
      have hxn := ((hord.mem x).1 (List.mem_of_getElem? hx)).1
      have hyn := ((hord.mem y).1 (List.mem_of_getElem? hy)).1
      have hbf : Bf g k x y := by
        have h1 := (List.pairwise_iff_getElem.1 hord.pw) j (j + 1) (by omega) hlt (by omega)
        rw [List.getElem?_eq_getElem (by omega)] at hx hy
        cases hx; cases hy
        exact h1
      obtain ⟨p, hp⟩ : ∃ p, p = D g x k := ⟨_, rfl⟩
      obtain ⟨q, hq⟩ : ∃ q, q = D g y k := ⟨_, rfl⟩
      have hcmp : q < p ∨ (p = q ∧ x < y) := by
        have h1 := hbf
        unfold Bf at h1
        rw [D_symm hK.1 hK.2.2 hxn, D_symm hK.1 hK.2.2 hyn, ← hp, ← hq] at h1
        exact h1
      have HD1 := hide (fun W (hW : Below w5.heap.size w5 W) => dist_any _ g x k W (HG5.out.up hW) hK.1 hxn hK.2.2)
      have HD2 := hide (fun W (hW : Below w5.heap.size w5 W) => dist_any _ g y k W (HG5.out.up hW) hK.1 hyn hK.2.2)
      rw [← hp] at HD1
      rw [← hq] at HD2
      obtain ⟨o3, cp3, he, _, _⟩ := HO5.out.form (by omega)
      have hA3 : A3 = some ⟨o3, 0, none⟩ := by injection he
      subst hA3
      have HCL : Hid (∀ W, Below w5.heap.size w5 W → W.cell? ⟨X, 0, none⟩ = some (.int .i64 g.n) ∧ W.cell? ⟨X, 1, none⟩ = some (.slice Ag g.ls.length cg) ∧ W.cell? ⟨o3, j, none⟩ = some (.int .i64 x) ∧ W.cell? ⟨o3, j + 1, none⟩ = some (.int .i64 y)) :=
        hide fun W hW => ⟨(HX5.out.up hW).cell 0, (HX5.out.up hW).cell 1, own_int (HO5.out.below hW) hx, own_int (HO5.out.below hW) hy⟩
      have hRl := hlt
      clear hK hord hx hy hxn hyn hbf hp hq he hlt
      obtain ⟨c0, c1, c2, c3⟩ := HCL.out wr hbe
      have e0 := fun y => wext_cell wr y c0
      have e1 := fun y => wext_cell wr y c1
      have e2 := fun y => wext_cell wr y c2
      have HE1 := hide (fun y => HD1.out (wext wr y) (hbe.trans ((wext_below wr y).mono hbe.size)))
      clear c0 c1 c2 c3
      go_upto_region 11 with fail
      refine region_q (by kernel_rfl) (by kernel_rfl) ?_
      repeat (go_big_quiet_step ((first | (go_at_call 30; with_reducible exact q_call (HE1.out _)))))
      refine wpQuiet_nil ?_
      intro wx hbx
      have hb1 := hbe.trans (hbx.mono hbe.size)
      clear e0 e1 e2 hbe hbx
      obtain ⟨c0, c1, c2, c3⟩ := HCL.out wx hb1
      have e0 := fun y => wext_cell wx y c0
      have e1 := fun y => wext_cell wx y c1
      have e2 := fun y => wext_cell wx y c3
      have HE2 := hide (fun y => HD2.out (wext wx y) (hb1.trans ((wext_below wx y).mono hb1.size)))
      clear c0 c1 c2 c3
      go_upto_region 12 with fail
      refine region_q (by kernel_rfl) (by kernel_rfl) ?_
      repeat (go_big_quiet_step ((first | (go_at_call 30; with_reducible exact q_call (HE2.out _)))))
      refine wpQuiet_nil ?_
      intro wy hby
      have hb2 := hb1.trans (hby.mono hb1.size)
      clear e0 e1 e2 hb1 hby
      obtain ⟨c0, c1, c2, c3⟩ := HCL.out wy hb2
      have e1 := fun y => wext_cell wy y c2
      have e2 := fun y => wext_cell wy y c3
      clear c0 c1 c2 c3
      go_upto_region 13 with fail
      rcases hcmp with hc | ⟨hc, hc2⟩
      · have n1 : (p == q) = false := by rw [beq_eq_false_iff_ne]; omega
        have n0 : decide (p < q) = false := decide_eq_false (by omega)
        refine region_q (by kernel_rfl) (by kernel_rfl) ?_
        repeat (go_big_quiet_step ((first | (fail))))
        refine wpQuiet_nil ?_
        intro wx hbx
        go_wp2
        go_roundg (gk - 1)
        case measure => omega
        case rel => exact ⟨j + 1, by omega, by go_num, hb2.trans (hbx.mono hb2.size)⟩
      · subst hc
        have n1 : (p == p) = true := by simp
        have n0 : decide (p < p) = false := decide_eq_false (by omega)
        have n2 : decide (y ≤ x) = false := decide_eq_false (by omega)
        refine region_q (by kernel_rfl) (by kernel_rfl) ?_
        repeat (go_big_quiet_step ((first | (fail))))
        refine wpQuiet_nil ?_
        intro wx hbx
        go_wp2
        go_roundg (gk - 1)
        case measure => omega
        case rel => exact ⟨j + 1, by omega, by go_num, hb2.trans (hbx.mono hb2.size)⟩
    · go_wp2
      go_ret
      exact ⟨rfl, hb05.trans (hbe.mono hb05.size)⟩
end Go.Proofs.Ytgaipicebjklaaa
