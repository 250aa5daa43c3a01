/- The law FnRepairPath, walked: it returns true for every code; GraphLink. Conditions: none. -/
import Derived.Test.YtenfdekjnelkoaaDrawR
import Derived.Test.YtenfdekjnelkoaaPathS
import Derived.Test.YtenfdekjnelkoaaLawH
namespace Go.Proofs.Ytenfdekjnelkoaa
open Go.RowKit
set_option maxHeartbeats 800000 in
theorem graphLink_any (v : Value) (g : Gr) (a b : Int) (w : World) (hv : GrR w w.heap.size v g) (hm : g.ls.length ≤ 1048576) (hg : GV g) :
    Calls Try.prog 33 #[v, .int .i64 a, .int .i64 b] w fun e w' => e = .returned (.int .i64 (lnk g a b)) ∧ Below w.heap.size w w' := by
  have hvv := hv
  obtain ⟨A, cap, rfl, hc, hr⟩ := hv.form
  obtain ⟨wb, hwb⟩ : ∃ wb, wb = w.alloc (Obj.cells #[.int .i64 g.n, .slice A g.ls.length cap] 25) := ⟨_, rfl⟩
  have hbw : Below w.heap.size w wb := by rw [hwb]; exact below1 _ _
  have HB : Hid (Blk wb w.heap.size 25 #[.int .i64 g.n, .slice A g.ls.length cap]) := hide (by rw [hwb]; exact Blk.new _ _ _)
  have HV := hide (hvv.up hbw)
  have HG := hide hg
  clear hr hvv hv hg
  go_enter Try.func33, Try.ntmps33
  go_wp2_with fail
  rw [← hwb]
  clear hwb
  refine (graphValid_any _ g _ HV.out hm).mono ?_
  rintro e w1 ⟨rfl, hb1⟩
  rw [tb_yes HG.out]
  have HB1 := hide (HB.out.up hb1)
  have HV1 := hide (HV.out.up hb1)
  have hb01 := hbw.trans (hb1.mono hbw.size)
  clear HB HV hb1 hbw
  have c0 := HB1.out.cell 0
  have c1 := HB1.out.cell 1
  go_wp2_with fail
  refine (linkOf_any _ g a b _ HV1.out hm).mono ?_
  rintro e w2 ⟨rfl, hb2⟩
  go_wp2
  go_ret
  exact ⟨rfl, hb01.trans (hb2.mono hb01.size)⟩
/-- Nodes that follow one another on a path without link k are not joined by it. -/
theorem path_link {g : Gr} {k : Int} {t f : Int} {P : List Int} (hk : Ok g f k) (h : Pt (Wo g k.toNat) t f P) {i : Nat} {a b : Int} (ha : P[i]? = some a) (hb : P[i + 1]? = some b) : lnk g a b ≠ k := by
  have hw := wo_gv hk.1 k.toNat
  obtain ⟨c, ⟨l, hl, _, hj⟩, _⟩ := h.hop hw ha hb
  obtain ⟨j, hjk, hmj⟩ := wo_mem.1 hl
  rw [lnk_jn hk.1 hmj hj]
  have := hk.2.1.1
  omega
set_option maxRecDepth 100000 in
set_option maxHeartbeats 1600000 in
theorem lawRepairPath (v : Value) (bs : List Int) (w : World) (hv : SlR bc 1 w w.heap.size v bs) (hm : bs.length ≤ 9223372036854775807 ∧ ∀ n ∈ bs, 0 ≤ n ∧ n ≤ 255) :
    Calls Try.prog 5 #[v] w fun e w' => e = .returned (.bool true) ∧ Below w.heap.size w w' := by
  by_cases hl : 1048576 < bs.length
  · obtain ⟨A, cap, rfl, hc, hr⟩ := hv
    clear hr hm
    go_enter Try.func5, Try.ntmps5
    go_wp2
    go_ret
    exact ⟨rfl, Below.refl _ _⟩
  have hvv := hv
  obtain ⟨A, cap, rfl, hc, hr⟩ := hvv
  have HM := hide hm
  clear hm hr hc
  go_enter Try.func5, Try.ntmps5
  go_wp2_with fail
  refine (drawRP_any _ bs _ hv HM.out).mono ?_
  rintro e w1 ⟨x1, g, f, k, t, rfl, hO1, hl15, hb1⟩
  obtain ⟨Ag, cg, rfl⟩ := hO1.lit
  obtain ⟨X, hX⟩ : ∃ X, X = w1.heap.size := ⟨_, rfl⟩
  obtain ⟨w2, hw2⟩ : ∃ w2, w2 = w1.alloc (Obj.cells #[.int .i64 g.n, .slice Ag g.ls.length cg] 25) := ⟨_, rfl⟩
  have h12 : Below w1.heap.size w1 w2 := by rw [hw2]; exact below1 _ _
  have HX2 := hide (show Blk w2 X 25 #[.int .i64 g.n, .slice Ag g.ls.length cg] from by rw [hw2, hX]; exact Blk.new _ _ _)
  have HG2 := hide (hO1.grr.up h12)
  have hb2 := hb1.trans (h12.mono hb1.size)
  have hn : g.ls.length ≤ 1048576 := by omega
  have c0 := HX2.out.cell 0
  have c1 := HX2.out.cell 1
  clear hO1 hb1 h12 HM
  go_upto_region 4 with fail
  rw [← hw2, ← hX]
  clear hw2 hX
  obtain ⟨R, hR⟩ : ∃ R, repL g f k t = R := ⟨_, rfl⟩
  have HR := hide hR
  have hlo : R.length ≤ 1048576 := by rw [← hR]; exact Nat.le_trans (repL_len g f k t) (by decide)
  clear hR
  go_wp2_with fail
  refine (repairPath_any _ g f k t _ HG2.out hn).mono ?_
  rintro e w3 ⟨y3, rfl, hO3, hb3⟩
  rw [HR.out] at hO3
  obtain ⟨A3, k3, rfl, _, _⟩ := hO3.lit
  have HX3 := hide (HX2.out.up hb3)
  have HG3 := hide (HG2.out.up hb3)
  have hb03 := hb2.trans (hb3.mono hb2.size)
  clear c0 c1 HX2 HG2 hb2
  have c0 := HX3.out.cell 0
  have c1 := HX3.out.cell 1
  go_wp2_with fail
  refine (specPath_any _ g f k t _ HG3.out hn).mono ?_
  rintro e w4 ⟨y4, rfl, hO4, hb4⟩
  rw [HR.out] at hO4
  obtain ⟨A4, k4, rfl, _, _⟩ := hO4.lit
  have HX4 := hide (HX3.out.up hb4)
  have HG4 := hide (HG3.out.up hb4)
  have HO4 := hide (hO3.below hb4)
  have HW4 := hide hO4
  have hb04 := hb03.trans (hb4.mono hb03.size)
  clear c0 c1 HX3 HG3 hb03 hO3 hO4 hb3 hb4
  go_wp2_with fail
  refine (same_any _ _ R R _ (HO4.out.slr ic_len) (HW4.out.slr ic_len) hlo hlo).mono ?_
  rintro e w5 ⟨rfl, hb5⟩
  rw [eqB_self]
  have HX5 := hide (HX4.out.up hb5)
  have HG5 := hide (HG4.out.up hb5)
  have HO5 := hide (HO4.out.below hb5)
  have HW5 := hide (HW4.out.below hb5)
  have hb05 := hb04.trans (hb5.mono hb04.size)
  clear HX4 HG4 HO4 HW4 hb04 hb5
  have c0 := HX5.out.cell 0
  have c1 := HX5.out.cell 1
  by_cases h0 : R.length = 0
  · have e0 : ((R.length : Int) == 0) = true := by rw [beq_iff_eq]; omega
    clear h0
    go_wp2_with fail
    refine (same_any _ _ R R _ (HO5.out.slr ic_len) (HW5.out.slr ic_len) hlo hlo).mono ?_
    rintro e w6 ⟨rfl, hb6⟩
    rw [eqB_self]
    go_wp2
    go_ret
    exact ⟨rfl, hb05.trans (hb6.mono hb05.size)⟩
  have e0 : ((R.length : Int) == 0) = false := by rw [beq_eq_false_iff_ne]; omega
  have hRn : repL g f k t ≠ [] := fun h => h0 (by rw [← HR.out, h]; rfl)
  have hPT := repL_pt hRn
  rw [HR.out] at hPT
  have HPT := hide hPT
  have hok : GV g ∧ Ix g k := ⟨hPT.1.1.1, hPT.1.1.2.1⟩
  have HOK := hide hok
  clear hRn hPT
  go_wp2_with fail
  refine (without_any _ g k _ HG5.out hn).mono ?_
  rintro e w7 ⟨v7, rfl, hO7, hb7⟩
  rw [woX_yes hok] at hO7
  obtain ⟨G, hG⟩ : ∃ G, G = Wo g k.toNat := ⟨_, rfl⟩
  rw [← hG] at hO7
  have HSP : Hid (spL G f t = R) := hide (by rw [hG, spL_rep hok, HR.out])
  have hGl : G.ls.length ≤ 1048576 := by rw [hG]; exact Nat.le_trans (List.length_eraseIdx_le _ _) hn
  obtain ⟨A7, c7, rfl⟩ := hO7.lit
  have h78 := below1 w7 (Obj.cells #[.int .i64 G.n, .slice A7 G.ls.length c7] 25)
  have hb07 := hb05.trans (hb7.mono hb05.size)
  have hb08 := hb07.trans (h78.mono hb07.size)
  have HGG := hide (hO7.grr.up h78)
  have HX8 := hide ((HX5.out.up hb7).up h78)
  have HG8 := hide ((HG5.out.up hb7).up h78)
  have HO8 := hide ((HO5.out.below hb7).below h78)
  have HY := hide (Blk.new w7 25 #[.int .i64 G.n, .slice A7 G.ls.length c7])
  obtain ⟨Y, hY⟩ : ∃ Y, Y = w7.heap.size := ⟨_, rfl⟩
  obtain ⟨w8, hw8⟩ : ∃ w8, w8 = w7.alloc (Obj.cells #[.int .i64 G.n, .slice A7 G.ls.length c7] 25) := ⟨_, rfl⟩
  rw [← hw8] at hb08 HGG HY HX8 HG8 HO8
  rw [← hY] at HY
  obtain ⟨o3, cp3, he, _, _⟩ := HO8.out.form (by omega)
  have hA3 : A3 = some ⟨o3, 0, none⟩ := by injection he
  subst hA3
  clear c0 c1 HX5 HG5 HO5 HW5 hb05 hb7 hb07 h78 hO7 hG hok he
  go_upto_region 10 with fail
  rw [← hw8, ← hY]
  clear hw8 hY
  go_loopg [11] (R.length) (fun gg iv wr => ∃ j : Nat, j + gg = R.length ∧ iv = .int .i64 ((j : Int) + 1) ∧ Below w8.heap.size w8 wr)
  case atStart => exact ⟨0, by omega, rfl, Below.refl _ _⟩
  case round =>
    obtain ⟨j, hj, rfl, hbe⟩ := hrel
    by_cases hlt : j + 1 < R.length
    · obtain ⟨x, hx⟩ := get_some (show j < R.length by omega)
      obtain ⟨y, hy⟩ := get_some hlt
      obtain ⟨q, hq⟩ : ∃ q, q = lnk g x y := ⟨_, rfl⟩
      have hqk : q ≠ k := by rw [hq]; exact path_link HPT.out.1.1 HPT.out.2 hx hy
      have e9 : (q == k) = false := by rw [beq_eq_false_iff_ne]; exact hqk
      have hgl := fun y' => graphLink_any _ g x y (wext wr y') ((HG8.out.up hbe).up (wext_below wr y')) hn HOK.out.1
      rw [← hq] at hgl
      have HGL := hide hgl
      have c0 := (HX8.out.up hbe).cell 0
      have c1 := (HX8.out.up hbe).cell 1
      have c2 := own_int (HO8.out.below hbe) hx
      have c3 := own_int (HO8.out.below hbe) hy
      have e1 := fun y => wext_cell wr y c0
      have e2 := fun y => wext_cell wr y c1
      have e3 := fun y => wext_cell wr y c2
      have e4 := fun y => wext_cell wr y c3
      clear hgl hq hqk hx hy c0 c1 c2 c3
      go_upto_region 12 with fail
      refine region_q (by kernel_rfl) (by kernel_rfl) ?_
      repeat (go_big_quiet_step ((first | (go_at_call 33; with_reducible exact q_call (HGL.out _)))))
      refine wpQuiet_nil ?_
      intro wx hbx
      clear e1 e2 e3 e4
      go_wp2
      go_roundg (gk - 1)
      case measure => omega
      case rel => exact ⟨j + 1, by omega, by go_num, hbe.trans (hbx.mono hbe.size)⟩
    · have d0 := (HY.out.up hbe).cell 0
      have d1 := (HY.out.up hbe).cell 1
      go_wp2_with fail
      refine (shortestX_any _ G f t _ (HGG.out.up hbe) hGl).mono ?_
      rintro e w9 ⟨y9, rfl, hO9, hb9⟩
      rw [HSP.out] at hO9
      obtain ⟨A9, k9, rfl, _, _⟩ := hO9.lit
      have HO9 := hide hO9
      have HOa := hide ((HO8.out.below hbe).below hb9)
      have hbe9 := hbe.trans (hb9.mono hbe.size)
      clear hO9 d0 d1 hb9
      go_wp2_with fail
      refine (same_any _ _ R R _ (HO9.out.slr ic_len) (HOa.out.slr ic_len) hlo hlo).mono ?_
      rintro e w10 ⟨rfl, hb10⟩
      rw [eqB_self]
      go_wp2
      go_ret
      exact ⟨rfl, hb08.trans ((hbe9.trans (hb10.mono hbe9.size)).mono hb08.size)⟩
end Go.Proofs.Ytenfdekjnelkoaa
