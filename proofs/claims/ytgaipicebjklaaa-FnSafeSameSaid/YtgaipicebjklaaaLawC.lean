/- The laws FnSafeSame and FnSafeNodes, walked: they return true for every code. Conditions: none. -/
import Derived.Test.YtgaipicebjklaaaDrawQ
import Derived.Test.YtgaipicebjklaaaExG
import Derived.Test.YtgaipicebjklaaaLawH
import Derived.Test.YtgaipicebjklaaaWithout2
namespace Go.Proofs.Ytgaipicebjklaaa
open Go.RowKit
theorem safeL_ok {g : Gr} {f k : Int} {R : List Int} (h : safeL g f k = R) (h0 : R.length ≠ 0) : Ok g f k ∧ R = selTo (Sf g (lkOf g k) f) g.n.toNat := by
  by_cases hk : Ok g f k
  · exact ⟨hk, by rw [← h, safeL, okL_yes hk]⟩
  · rw [safeL, okL_no hk] at h
    exact absurd (by rw [← h]; rfl) h0
set_option maxRecDepth 100000 in
set_option maxHeartbeats 1600000 in
theorem lawSafeSame (v : Value) (bs : List Int) (w : World) (hv : SlR bc 1 w w.heap.size v bs) (hm : bs.length ≤ 9223372036854775807 ∧ ∀ n ∈ bs, 0 ≤ n ∧ n ≤ 255) :
    Calls Try.prog 6 #[v] w fun e w' => e = .returned (.bool true) ∧ Below w.heap.size w w' := by
  by_cases hl : 1048576 < bs.length
  · obtain ⟨A, cap, rfl, hc, hr⟩ := hv
    clear hr hm
    go_enter Try.func6, Try.ntmps6
    go_wp2
    go_ret
    exact ⟨rfl, Below.refl _ _⟩
  have hvv := hv
  obtain ⟨A, cap, rfl, hc, hr⟩ := hvv
  have HM := hide hm
  clear hm hr hc
  go_enter Try.func6, Try.ntmps6
  go_wp2_with fail
  refine (drawRS_any _ bs _ hv HM.out).mono ?_
  rintro e w1 ⟨x1, g, f, k, rfl, hO1, hl15, hb1⟩
  obtain ⟨Ag, cg, rfl⟩ := hO1.lit
  obtain ⟨X, hX⟩ : ∃ X, X = w1.heap.size := ⟨_, rfl⟩
  obtain ⟨w2, hw2⟩ : ∃ w2, w2 = w1.alloc (Obj.cells #[.int .i64 g.n, .slice Ag g.ls.length cg] 25) := ⟨_, rfl⟩
  have h12 : Below w1.heap.size w1 w2 := by rw [hw2]; exact below1 _ _
  have HX2 := hide (show Blk w2 X 25 #[.int .i64 g.n, .slice Ag g.ls.length cg] from by rw [hw2, hX]; exact Blk.new _ _ _)
  have HG2 := hide (hO1.grr.up h12)
  have hb2 := hb1.trans (h12.mono hb1.size)
  have hn : g.ls.length ≤ 1048576 := by omega
  have c0 := HX2.out.cell 0
  have c1 := HX2.out.cell 1
  clear hO1 hb1 h12 HM
  go_upto_region 4 with fail
  rw [← hw2, ← hX]
  clear hw2 hX
  obtain ⟨R, hR⟩ : ∃ R, safeL g f k = R := ⟨_, rfl⟩
  have HR := hide hR
  have hlo : R.length ≤ 1048576 := by rw [← hR]; exact Nat.le_trans (safeL_len g f k) (by decide)
  clear hR
  go_wp2_with fail
  refine (repairSafe_any _ g f k _ HG2.out hn).mono ?_
  rintro e w3 ⟨y3, rfl, hO3, hb3⟩
  rw [HR.out] at hO3
  obtain ⟨A3, k3, rfl, _, _⟩ := hO3.lit
  have HX3 := hide (HX2.out.up hb3)
  have HG3 := hide (HG2.out.up hb3)
  have hb03 := hb2.trans (hb3.mono hb2.size)
  clear c0 c1 HX2 HG2 hb2
  have c0 := HX3.out.cell 0
  have c1 := HX3.out.cell 1
  go_wp2_with fail
  refine (specSafe_any _ g f k _ HG3.out hn).mono ?_
  rintro e w4 ⟨y4, rfl, hO4, hb4⟩
  rw [HR.out] at hO4
  obtain ⟨A4, k4, rfl, _, _⟩ := hO4.lit
  have HX4 := hide (HX3.out.up hb4)
  have HG4 := hide (HG3.out.up hb4)
  have HO4 := hide (hO3.below hb4)
  have HW4 := hide hO4
  have hb04 := hb03.trans (hb4.mono hb03.size)
  clear c0 c1 HX3 HG3 hb03 hO3 hO4 hb3 hb4
  have c0 := HX4.out.cell 0
  have c1 := HX4.out.cell 1
  go_wp2_with fail
  refine (same_any _ _ R R _ (HO4.out.slr ic_len) (HW4.out.slr ic_len) hlo hlo).mono ?_
  rintro e w5 ⟨rfl, hb5⟩
  rw [eqB_self]
  have HX5 := hide (HX4.out.up hb5)
  have HG5 := hide (HG4.out.up hb5)
  have HO5 := hide (HO4.out.below hb5)
  have HW5 := hide (HW4.out.below hb5)
  have hb05 := hb04.trans (hb5.mono hb04.size)
  clear c0 c1 HX4 HG4 HO4 HW4 hb04 hb5
  have c0 := HX5.out.cell 0
  have c1 := HX5.out.cell 1
  by_cases h0 : R.length = 0
  · have e0 : ((R.length : Int) == 0) = true := by rw [beq_iff_eq]; omega
    clear h0
    go_wp2_with fail
    refine (same_any _ _ R R _ (HO5.out.slr ic_len) (HW5.out.slr ic_len) hlo hlo).mono ?_
    rintro e w6 ⟨rfl, hb6⟩
    rw [eqB_self]
    go_wp2
    go_ret
    exact ⟨rfl, hb05.trans (hb6.mono hb05.size)⟩
  have e0 : ((R.length : Int) == 0) = false := by rw [beq_eq_false_iff_ne]; omega
  obtain ⟨hK, hRs⟩ := safeL_ok HR.out h0
  have hgv := wo_gv hK.1 k.toNat
  have HW : Hid (∀ x, x ∈ R → Nd g x ∧ D (Wo g k.toNat) f x = D g f x) := hide fun x hx => by
    rw [hRs, selTo_mem] at hx
    have hn0 := hK.1.n.1
    have hxn : Nd g x := ⟨hx.1.1, by omega⟩
    exact ⟨hxn, safe_D hK.1 (lk_at hK.2.1) hK.2.2 hxn hx.2⟩
  have HF : Hid (Nd (Wo g k.toNat) f ∧ Nd g f ∧ GV g ∧ ∀ x, Nd g x → Nd (Wo g k.toNat) x) := hide ⟨wo_nd.2 hK.2.2, hK.2.2, hK.1, fun x h => wo_nd.2 h⟩
  have hok : GV g ∧ Ix g k := ⟨hK.1, hK.2.1⟩
  clear hRs hK
  go_wp2_with fail
  refine (without_any _ g k _ HG5.out hn).mono ?_
  rintro e w6 ⟨v6, rfl, hO6, hb6⟩
  rw [woX_yes hok] at hO6
  obtain ⟨G, hG⟩ : ∃ G, G = Wo g k.toNat := ⟨_, rfl⟩
  rw [← hG] at hO6 HW HF hgv
  have HGV := hide hgv
  obtain ⟨A6, c6, rfl⟩ := hO6.lit
  have h67 := below1 w6 (Obj.cells #[.int .i64 G.n, .slice A6 G.ls.length c6] 25)
  have hb06 := hb05.trans (hb6.mono hb05.size)
  have hb07 := hb06.trans (h67.mono hb06.size)
  have HX7 := hide ((HX5.out.up hb6).up h67)
  have HG7 := hide ((HG5.out.up hb6).up h67)
  have HO7 := hide ((HO5.out.below hb6).below h67)
  have HGG := hide (hO6.grr.up h67)
  have HY7 := hide (Blk.new w6 25 #[.int .i64 G.n, .slice A6 G.ls.length c6])
  obtain ⟨Y, hY⟩ : ∃ Y, Y = w6.heap.size := ⟨_, rfl⟩
  obtain ⟨w7, hw7⟩ : ∃ w7, w7 = w6.alloc (Obj.cells #[.int .i64 G.n, .slice A6 G.ls.length c6] 25) := ⟨_, rfl⟩
  rw [← hw7] at hb07 HX7 HG7 HO7 HGG HY7
  rw [← hY] at HY7
  obtain ⟨o3, cp3, he, _, _⟩ := HO7.out.form (by omega)
  have hA3 : A3 = some ⟨o3, 0, none⟩ := by injection he
  subst hA3
  clear c0 c1 HX5 HG5 HO5 HW5 hb05 hb6 hb06 h67 hO6 hG hok hgv he
  go_upto_region 9 with fail
  rw [← hw7, ← hY]
  clear hw7 hY
  go_wp2
  go_loopg [10] (R.length) (fun gg iv wr => ∃ j : Nat, j + gg = R.length ∧ iv = .int .i64 j ∧ Below w7.heap.size w7 wr)
  case atStart => exact ⟨0, by omega, rfl, Below.refl _ _⟩
  case round =>
    obtain ⟨j, hj, rfl, hbe⟩ := hrel
    by_cases hlt : j < R.length
    · obtain ⟨x, hx⟩ := get_some hlt
      obtain ⟨hxn, hxd⟩ := HW.out x (List.mem_of_getElem? hx)
      obtain ⟨p, hp⟩ : ∃ p, p = D g f x := ⟨_, rfl⟩
      have hd1 := fun y => dist_any _ G f x (wext wr y) ((HGG.out.up hbe).up (wext_below wr y)) HGV.out HF.out.1 (HF.out.2.2.2 x hxn)
      have hd2 := fun y => dist_any _ g f x (wext wr y) ((HG7.out.up hbe).up (wext_below wr y)) HF.out.2.2.1 HF.out.2.1 hxn
      rw [hxd] at hd1
      rw [← hp] at hd1 hd2
      have HD1 := hide hd1
      have HD2 := hide hd2
      have c0 := (HX7.out.up hbe).cell 0
      have c1 := (HX7.out.up hbe).cell 1
      have c2 := (HY7.out.up hbe).cell 0
      have c3 := (HY7.out.up hbe).cell 1
      have c4 := own_int (HO7.out.below hbe) hx
      have e1 := fun y => wext_cell wr y c0
      have e2 := fun y => wext_cell wr y c1
      have e3 := fun y => wext_cell wr y c2
      have e4 := fun y => wext_cell wr y c3
      have e5 := fun y => wext_cell wr y c4
      have n1 : (p != p) = false := by simp
      clear hd1 hd2 hp hx hxd hxn c0 c1 c2 c3 c4
      go_upto_region 12 with fail
      refine region_q (by kernel_rfl) (by kernel_rfl) ?_
      repeat (go_big_quiet_step ((first | (go_at_call 30; with_reducible exact q_call (HD1.out _)) | (go_at_call 30; with_reducible exact q_call (HD2.out _)))))
      refine wpQuiet_nil ?_
      intro wx hbx
      clear e1 e2 e3 e4 e5
      go_wp2
      go_roundg (gk - 1)
      case measure => omega
      case rel => exact ⟨j + 1, by omega, by go_num, hbe.trans (hbx.mono hbe.size)⟩
    · go_wp2
      go_ret
      exact ⟨rfl, hb07.trans (hbe.mono hb07.size)⟩
end Go.Proofs.Ytgaipicebjklaaa
