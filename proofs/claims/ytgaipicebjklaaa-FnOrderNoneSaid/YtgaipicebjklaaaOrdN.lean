/- The laws FnOrderNodes and FnOrderNone, walked: they return true for every code. Conditions: none. -/
import Derived.Test.YtgaipicebjklaaaOrdL
import Derived.Test.YtgaipicebjklaaaLawD
namespace Go.Proofs.Ytgaipicebjklaaa
open Go.RowKit
set_option maxRecDepth 100000 in
set_option maxHeartbeats 1600000 in
theorem lawOrderNodes (v : Value) (bs : List Int) (w : World) (hv : SlR bc 1 w w.heap.size v bs) (hm : bs.length ≤ 9223372036854775807 ∧ ∀ n ∈ bs, 0 ≤ n ∧ n ≤ 255) :
    Calls Try.prog 10 #[v] w fun e w' => e = .returned (.bool true) ∧ Below w.heap.size w w' := by
  by_cases hl : 1048576 < bs.length
  · obtain ⟨A, cap, rfl, hc, hr⟩ := hv
    clear hr hm
    go_enter Try.func10, Try.ntmps10
    go_wp2
    go_ret
    exact ⟨rfl, Below.refl _ _⟩
  have hvv := hv
  obtain ⟨A, cap, rfl, hc, hr⟩ := hvv
  have HM := hide hm
  clear hm hr hc
  go_enter Try.func10, Try.ntmps10
  go_wp2_with fail
  refine (drawUO_any _ bs _ hv HM.out).mono ?_
  rintro e w1 ⟨x1, g, f, k, rfl, hO1, hl15, hb1⟩
  obtain ⟨Ag, cg, rfl⟩ := hO1.lit
  obtain ⟨X, hX⟩ : ∃ X, X = w1.heap.size := ⟨_, rfl⟩
  obtain ⟨w2, hw2⟩ : ∃ w2, w2 = w1.alloc (Obj.cells #[.int .i64 g.n, .slice Ag g.ls.length cg] 25) := ⟨_, rfl⟩
  have h12 : Below w1.heap.size w1 w2 := by rw [hw2]; exact below1 _ _
  have HX2 := hide (show Blk w2 X 25 #[.int .i64 g.n, .slice Ag g.ls.length cg] from by rw [hw2, hX]; exact Blk.new _ _ _)
  have HG2 := hide (hO1.grr.up h12)
  have hb2 := hb1.trans (h12.mono hb1.size)
  have hn : g.ls.length ≤ 1048576 := by omega
  have c0 := HX2.out.cell 0
  have c1 := HX2.out.cell 1
  clear hO1 hb1 h12 HM
  go_upto_region 4 with fail
  rw [← hw2, ← hX]
  clear hw2 hX
  obtain ⟨R, hR⟩ : ∃ R, ordX g f k = R := ⟨_, rfl⟩
  have HR := hide hR
  have hlo : R.length ≤ 1048576 := by rw [← hR]; exact Nat.le_trans (ordX_len g f k) (by decide)
  clear hR
  go_wp2_with fail
  refine (updateOrder_any _ g f k _ HG2.out hn).mono ?_
  rintro e w3 ⟨y3, rfl, hO3, hb3⟩
  rw [HR.out] at hO3
  obtain ⟨A3, k3, rfl, _, _⟩ := hO3.lit
  have HX3 := hide (HX2.out.up hb3)
  have HG3 := hide (HG2.out.up hb3)
  have hb03 := hb2.trans (hb3.mono hb2.size)
  clear c0 c1 HX2 HG2 hb2
  have c0 := HX3.out.cell 0
  have c1 := HX3.out.cell 1
  go_wp2_with fail
  refine (specOrder_any _ g f k _ HG3.out hn).mono ?_
  rintro e w4 ⟨y4, rfl, hO4, hb4⟩
  rw [HR.out] at hO4
  obtain ⟨A4, k4, rfl, _, _⟩ := hO4.lit
  have HX4 := hide (HX3.out.up hb4)
  have HG4 := hide (HG3.out.up hb4)
  have HO4 := hide (hO3.below hb4)
  have HW4 := hide hO4
  have hb04 := hb03.trans (hb4.mono hb03.size)
  clear c0 c1 HX3 HG3 hb03 hO3 hO4 hb3 hb4
  have c0 := HX4.out.cell 0
  have c1 := HX4.out.cell 1
  go_wp2_with fail
  refine (same_any _ _ R R _ (HO4.out.slr ic_len) (HW4.out.slr ic_len) hlo hlo).mono ?_
  rintro e w5 ⟨rfl, hb5⟩
  rw [eqB_self]
  have HX5 := hide (HX4.out.up hb5)
  have HG5 := hide (HG4.out.up hb5)
  have HO5 := hide (HO4.out.below hb5)
  have HW5 := hide (HW4.out.below hb5)
  have hb05 := hb04.trans (hb5.mono hb04.size)
  clear c0 c1 HX4 HG4 HO4 HW4 hb04 hb5
  have c0 := HX5.out.cell 0
  have c1 := HX5.out.cell 1
  go_wp2_with fail
  refine (specValid_any _ g _ HG5.out hn).mono ?_
  rintro e w6 ⟨rfl, hb6⟩
  have HX6 := hide (HX5.out.up hb6)
  have HG6 := hide (HG5.out.up hb6)
  have HO6 := hide (HO5.out.below hb6)
  have HW6 := hide (HW5.out.below hb6)
  have hb06 := hb05.trans (hb6.mono hb05.size)
  clear c0 c1 HX5 HG5 HO5 HW5 hb05 hb6
  have c0 := HX6.out.cell 0
  have c1 := HX6.out.cell 1
  by_cases hV' : ¬ GV g
  · rw [tb_no hV']
    clear hV'
    go_wp2_with fail
    refine (same_any _ _ R R _ (HO6.out.slr ic_len) (HW6.out.slr ic_len) hlo hlo).mono ?_
    rintro e w7 ⟨rfl, hb7⟩
    rw [eqB_self]
    go_wp2
    go_ret
    exact ⟨rfl, hb06.trans (hb7.mono hb06.size)⟩
  have hV : GV g := Classical.not_not.1 hV'
  clear hV'
  rw [tb_yes hV]
  obtain ⟨hn1, hn2⟩ := hV.n
  have HV := hide hV
  clear hV
  by_cases hk0 : f < 0
  · go_wp2_with fail
    refine (same_any _ _ R R _ (HO6.out.slr ic_len) (HW6.out.slr ic_len) hlo hlo).mono ?_
    rintro e w7 ⟨rfl, hb7⟩
    rw [eqB_self]
    go_wp2
    go_ret
    exact ⟨rfl, hb06.trans (hb7.mono hb06.size)⟩
  by_cases hkn : (g.ls.length : Int) ≤ f
  · go_wp2_with fail
    refine (same_any _ _ R R _ (HO6.out.slr ic_len) (HW6.out.slr ic_len) hlo hlo).mono ?_
    rintro e w7 ⟨rfl, hb7⟩
    rw [eqB_self]
    go_wp2
    go_ret
    exact ⟨rfl, hb06.trans (hb7.mono hb06.size)⟩
  by_cases hf0 : k < 0
  · go_wp2_with fail
    refine (same_any _ _ R R _ (HO6.out.slr ic_len) (HW6.out.slr ic_len) hlo hlo).mono ?_
    rintro e w7 ⟨rfl, hb7⟩
    rw [eqB_self]
    go_wp2
    go_ret
    exact ⟨rfl, hb06.trans (hb7.mono hb06.size)⟩
  by_cases hfn : g.n ≤ k
  · go_wp2_with fail
    refine (same_any _ _ R R _ (HO6.out.slr ic_len) (HW6.out.slr ic_len) hlo hlo).mono ?_
    rintro e w7 ⟨rfl, hb7⟩
    rw [eqB_self]
    go_wp2
    go_ret
    exact ⟨rfl, hb06.trans (hb7.mono hb06.size)⟩
  have hK : Ok g k f := ⟨HV.out, ⟨by omega, by omega⟩, by omega, by omega⟩
  have hord := ordX_ord hK
  rw [HR.out] at hord
  have HORD := hide hord
  have HK := hide hK
  clear hK hord
  obtain ⟨S, hS⟩ : ∃ S : Nat → Nat, S = fun j => (selTo (UsT g (lkOf g f) k) j).length := ⟨_, rfl⟩
  have HS := hide hS
  clear hS
  have HSR : Hid (S g.n.toNat = R.length) := hide (by rw [HS.out]; exact HORD.out.2.length_eq.symm)
  go_upto_region 10 with fail
  clear c0 c1
  go_loopg [8, 9] (g.n.toNat) (fun gg cv iv wr => ∃ (j : Nat) (c : Nat), j + gg = g.n.toNat ∧ Hid (c = S j) ∧ cv = .int .i64 (c : Nat) ∧ c ≤ j ∧ iv = .int .i64 j ∧ Below w6.heap.size w6 wr)
  case atStart => exact ⟨0, 0, by omega, hide (by rw [HS.out]; rfl), rfl, by omega, rfl, Below.refl _ _⟩
  case round =>
    obtain ⟨j, c, hj, HC, rfl, hcj, rfl, hbe⟩ := hrel
    have c0 := (HX6.out.up hbe).cell 0
    have c1 := (HX6.out.up hbe).cell 1
    by_cases hlt : (j : Int) < g.n
    · by_cases hu : Us g (lkOf g f) (j : Int) k
      · have HQ : Hid ((GV g ∧ Ix g f ∧ Nd g (j : Int) ∧ Nd g k) ∧ Us g (lkOf g f) (j : Int) k) := hide ⟨⟨HK.out.1, HK.out.2.1, ⟨by omega, hlt⟩, HK.out.2.2⟩, hu⟩
        have HM : Hid ((j : Int) ∈ R) := hide ((HORD.out.1.mem _).2 ⟨⟨by omega, hlt⟩, hu⟩)
        have HC1 : Hid (c + 1 = S (j + 1)) := hide (by rw [HS.out, HC.out, HS.out]; show _ = (selTo _ (j + 1)).length; rw [selTo_yes (show UsT g (lkOf g f) k (j : Int) from hu)]; simp)
        clear hu
        have HE1 := hide (fun W (hW : Below w6.heap.size w6 W) => hasInt_any _ R (j : Int) W ((HO6.out.below hW).slr ic_len) hlo)
        have HE2 := hide (fun W (hW : Below w6.heap.size w6 W) => linkUsedX_any _ g (j : Int) k f W (HG6.out.up hW) hn)
        rw [tb_yes HM.out] at HE1
        rw [tb_yes HQ.out] at HE2
        go_wp2_with fail
        refine (HE2.out _ hbe).mono ?_
        rintro e wr1 ⟨rfl, hb1⟩
        have hbe1 := hbe.trans (hb1.mono hbe.size)
        clear c0 c1 hb1
        have c0 := (HX6.out.up hbe1).cell 0
        have c1 := (HX6.out.up hbe1).cell 1
        have e0 := fun y => wext_cell wr1 y c0
        have e1 := fun y => wext_cell wr1 y c1
        have HF1 := hide (fun y => HE1.out (wext wr1 y) (hbe1.trans ((wext_below wr1 y).mono hbe1.size)))
        have HF2 := hide (fun y => HE2.out (wext wr1 y) (hbe1.trans ((wext_below wr1 y).mono hbe1.size)))
        clear c0 c1
        go_upto_region 14 with fail
        refine region_q (by kernel_rfl) (by kernel_rfl) ?_
        repeat (go_big_quiet_step ((first | (go_at_call 18; with_reducible exact q_call (HF1.out _)) | (go_at_call 32; with_reducible exact q_call (HF2.out _)))))
        refine wpQuiet_nil ?_
        intro wx hbx
        have hbe2 := hbe1.trans (hbx.mono hbe1.size)
        clear e0 e1
        go_wp2
        go_roundg (gk - 1)
        case measure => omega
        case rel => exact ⟨j + 1, c + 1, by omega, HC1, by go_num, by omega, by go_num, hbe2⟩
      · have HQ : Hid (¬ ((GV g ∧ Ix g f ∧ Nd g (j : Int) ∧ Nd g k) ∧ Us g (lkOf g f) (j : Int) k)) := hide fun h => hu h.2
        have HM : Hid ((j : Int) ∉ R) := hide fun h => hu ((HORD.out.1.mem _).1 h).2
        have HC1 : Hid (c = S (j + 1)) := hide (by rw [HC.out, HS.out]; show _ = (selTo _ (j + 1)).length; rw [selTo_no (show ¬ UsT g (lkOf g f) k (j : Int) from hu)])
        clear hu
        have HE1 := hide (fun W (hW : Below w6.heap.size w6 W) => hasInt_any _ R (j : Int) W ((HO6.out.below hW).slr ic_len) hlo)
        have HE2 := hide (fun W (hW : Below w6.heap.size w6 W) => linkUsedX_any _ g (j : Int) k f W (HG6.out.up hW) hn)
        rw [tb_no HM.out] at HE1
        rw [tb_no HQ.out] at HE2
        go_wp2_with fail
        refine (HE2.out _ hbe).mono ?_
        rintro e wr1 ⟨rfl, hb1⟩
        have hbe1 := hbe.trans (hb1.mono hbe.size)
        clear c0 c1 hb1
        have c0 := (HX6.out.up hbe1).cell 0
        have c1 := (HX6.out.up hbe1).cell 1
        have e0 := fun y => wext_cell wr1 y c0
        have e1 := fun y => wext_cell wr1 y c1
        have HF1 := hide (fun y => HE1.out (wext wr1 y) (hbe1.trans ((wext_below wr1 y).mono hbe1.size)))
        have HF2 := hide (fun y => HE2.out (wext wr1 y) (hbe1.trans ((wext_below wr1 y).mono hbe1.size)))
        clear c0 c1
        go_upto_region 14 with fail
        refine region_q (by kernel_rfl) (by kernel_rfl) ?_
        repeat (go_big_quiet_step ((first | (go_at_call 18; with_reducible exact q_call (HF1.out _)) | (go_at_call 32; with_reducible exact q_call (HF2.out _)))))
        refine wpQuiet_nil ?_
        intro wx hbx
        have hbe2 := hbe1.trans (hbx.mono hbe1.size)
        clear e0 e1
        go_wp2
        go_roundg (gk - 1)
        case measure => omega
        case rel => exact ⟨j + 1, c, by omega, HC1, by go_num, by omega, by go_num, hbe2⟩
    · have e9 : ((c : Int) == (R.length : Int)) = true := by
        have h1 := HC.out
        have h2 := HSR.out
        rw [show g.n.toNat = j from by omega] at h2
        rw [beq_iff_eq]
        omega
      go_wp2
      go_ret
      exact ⟨by first | rfl | rw [e9], hb06.trans (hbe.mono hb06.size)⟩
set_option maxRecDepth 100000 in
set_option maxHeartbeats 1600000 in
theorem lawOrderNone (v : Value) (bs : List Int) (w : World) (hv : SlR bc 1 w w.heap.size v bs) (hm : bs.length ≤ 9223372036854775807 ∧ ∀ n ∈ bs, 0 ≤ n ∧ n ≤ 255) :
    Calls Try.prog 11 #[v] w fun e w' => e = .returned (.bool true) ∧ Below w.heap.size w w' := by
  by_cases hl : 1048576 < bs.length
  · obtain ⟨A, cap, rfl, hc, hr⟩ := hv
    clear hr hm
    go_enter Try.func11, Try.ntmps11
    go_wp2
    go_ret
    exact ⟨rfl, Below.refl _ _⟩
  have hvv := hv
  obtain ⟨A, cap, rfl, hc, hr⟩ := hvv
  have HM := hide hm
  clear hm hr hc
  go_enter Try.func11, Try.ntmps11
  go_wp2_with fail
  refine (drawUO_any _ bs _ hv HM.out).mono ?_
  rintro e w1 ⟨x1, g, f, k, rfl, hO1, hl15, hb1⟩
  obtain ⟨Ag, cg, rfl⟩ := hO1.lit
  obtain ⟨X, hX⟩ : ∃ X, X = w1.heap.size := ⟨_, rfl⟩
  obtain ⟨w2, hw2⟩ : ∃ w2, w2 = w1.alloc (Obj.cells #[.int .i64 g.n, .slice Ag g.ls.length cg] 25) := ⟨_, rfl⟩
  have h12 : Below w1.heap.size w1 w2 := by rw [hw2]; exact below1 _ _
  have HX2 := hide (show Blk w2 X 25 #[.int .i64 g.n, .slice Ag g.ls.length cg] from by rw [hw2, hX]; exact Blk.new _ _ _)
  have HG2 := hide (hO1.grr.up h12)
  have hb2 := hb1.trans (h12.mono hb1.size)
  have hn : g.ls.length ≤ 1048576 := by omega
  have c0 := HX2.out.cell 0
  have c1 := HX2.out.cell 1
  clear hO1 hb1 h12 HM
  go_upto_region 4 with fail
  rw [← hw2, ← hX]
  clear hw2 hX
  obtain ⟨R, hR⟩ : ∃ R, ordX g f k = R := ⟨_, rfl⟩
  have HR := hide hR
  have hlo : R.length ≤ 1048576 := by rw [← hR]; exact Nat.le_trans (ordX_len g f k) (by decide)
  clear hR
  go_wp2_with fail
  refine (updateOrder_any _ g f k _ HG2.out hn).mono ?_
  rintro e w3 ⟨y3, rfl, hO3, hb3⟩
  rw [HR.out] at hO3
  obtain ⟨A3, k3, rfl, _, _⟩ := hO3.lit
  have HX3 := hide (HX2.out.up hb3)
  have HG3 := hide (HG2.out.up hb3)
  have hb03 := hb2.trans (hb3.mono hb2.size)
  clear c0 c1 HX2 HG2 hb2
  have c0 := HX3.out.cell 0
  have c1 := HX3.out.cell 1
  go_wp2_with fail
  refine (specOrder_any _ g f k _ HG3.out hn).mono ?_
  rintro e w4 ⟨y4, rfl, hO4, hb4⟩
  rw [HR.out] at hO4
  obtain ⟨A4, k4, rfl, _, _⟩ := hO4.lit
  have HX4 := hide (HX3.out.up hb4)
  have HG4 := hide (HG3.out.up hb4)
  have HO4 := hide (hO3.below hb4)
  have HW4 := hide hO4
  have hb04 := hb03.trans (hb4.mono hb03.size)
  clear c0 c1 HX3 HG3 hb03 hO3 hO4 hb3 hb4
  have c0 := HX4.out.cell 0
  have c1 := HX4.out.cell 1
  go_wp2_with fail
  refine (same_any _ _ R R _ (HO4.out.slr ic_len) (HW4.out.slr ic_len) hlo hlo).mono ?_
  rintro e w5 ⟨rfl, hb5⟩
  rw [eqB_self]
  have HX5 := hide (HX4.out.up hb5)
  have HG5 := hide (HG4.out.up hb5)
  have HO5 := hide (HO4.out.below hb5)
  have HW5 := hide (HW4.out.below hb5)
  have hb05 := hb04.trans (hb5.mono hb04.size)
  clear c0 c1 HX4 HG4 HO4 HW4 hb04 hb5
  have c0 := HX5.out.cell 0
  have c1 := HX5.out.cell 1
  go_wp2_with fail
  refine (specValid_any _ g _ HG5.out hn).mono ?_
  rintro e w6 ⟨rfl, hb6⟩
  have HX6 := hide (HX5.out.up hb6)
  have HG6 := hide (HG5.out.up hb6)
  have HO6 := hide (HO5.out.below hb6)
  have HW6 := hide (HW5.out.below hb6)
  have hb06 := hb05.trans (hb6.mono hb05.size)
  clear c0 c1 HX5 HG5 HO5 HW5 hb05 hb6
  have c0 := HX6.out.cell 0
  have c1 := HX6.out.cell 1
  by_cases hV' : ¬ GV g
  · rw [tb_no hV']
    clear hV'
    go_wp2_with fail
    refine (same_any _ _ R R _ (HO6.out.slr ic_len) (HW6.out.slr ic_len) hlo hlo).mono ?_
    rintro e w7 ⟨rfl, hb7⟩
    rw [eqB_self]
    go_wp2
    go_ret
    exact ⟨rfl, hb06.trans (hb7.mono hb06.size)⟩
  have hV : GV g := Classical.not_not.1 hV'
  clear hV'
  rw [tb_yes hV]
  obtain ⟨hn1, hn2⟩ := hV.n
  have HV := hide hV
  clear hV
  by_cases hk0 : f < 0
  · go_wp2_with fail
    refine (same_any _ _ R R _ (HO6.out.slr ic_len) (HW6.out.slr ic_len) hlo hlo).mono ?_
    rintro e w7 ⟨rfl, hb7⟩
    rw [eqB_self]
    go_wp2
    go_ret
    exact ⟨rfl, hb06.trans (hb7.mono hb06.size)⟩
  by_cases hkn : (g.ls.length : Int) ≤ f
  · go_wp2_with fail
    refine (same_any _ _ R R _ (HO6.out.slr ic_len) (HW6.out.slr ic_len) hlo hlo).mono ?_
    rintro e w7 ⟨rfl, hb7⟩
    rw [eqB_self]
    go_wp2
    go_ret
    exact ⟨rfl, hb06.trans (hb7.mono hb06.size)⟩
  by_cases hf0 : k < 0
  · go_wp2_with fail
    refine (same_any _ _ R R _ (HO6.out.slr ic_len) (HW6.out.slr ic_len) hlo hlo).mono ?_
    rintro e w7 ⟨rfl, hb7⟩
    rw [eqB_self]
    go_wp2
    go_ret
    exact ⟨rfl, hb06.trans (hb7.mono hb06.size)⟩
  by_cases hfn : g.n ≤ k
  · go_wp2_with fail
    refine (same_any _ _ R R _ (HO6.out.slr ic_len) (HW6.out.slr ic_len) hlo hlo).mono ?_
    rintro e w7 ⟨rfl, hb7⟩
    rw [eqB_self]
    go_wp2
    go_ret
    exact ⟨rfl, hb06.trans (hb7.mono hb06.size)⟩
  have hK : Ok g k f := ⟨HV.out, ⟨by omega, by omega⟩, by omega, by omega⟩
  have hord := ordX_ord hK
  rw [HR.out] at hord
  have HORD := hide hord
  have HK := hide hK
  clear hK hord
  go_upto_region 8 with fail
  have hR8 : R.length ≤ 8 := by rw [← HR.out]; exact ordX_len g f k
  obtain ⟨S, hS⟩ : ∃ S, S = safeL g k f := ⟨_, rfl⟩
  have hS8 : S.length ≤ 8 := by rw [hS]; exact safeL_len g k f
  have HS := hide hS
  obtain ⟨T, hT⟩ : ∃ T, T = reachL g k := ⟨_, rfl⟩
  have HT := hide hT
  have hsum : R.length + S.length = T.length := by
    have hlm := List.mem_of_getElem? (lk_at HK.out.2.1)
    rw [HORD.out.2.length_eq, hS, hT, safeL, okL_yes HK.out, reachL, okL_yes ⟨HK.out.1, HK.out.2.2⟩]
    refine selTo_two fun x hx => ?_
    have hxn : Nd g x := ⟨by omega, by omega⟩
    have hc := us_comm HK.out.1 hlm hxn HK.out.2.2
    refine ⟨⟨fun h => ?_, fun h => ?_⟩, fun h => h.2.2 (hc.1 h.1)⟩
    · by_cases hu : Us g (lkOf g f) k x
      · exact .inl (hc.2 hu)
      · exact .inr ⟨h, hu⟩
    · exact h.elim (fun h => (hc.1 h).1) (fun h => h.1)
  have e9 : (IntKind.i64.wrap ((R.length : Int) + (S.length : Int)) == (T.length : Int)) = true := by rw [IntKind.wrap_i64, beq_iff_eq]; omega
  clear hS hT hsum
  have hd6 := (Below.refl w6.heap.size w6).drew
  have HXd := hide (HX6.out.up hd6)
  have HGd := hide (HG6.out.up hd6)
  have hb0d := hb06.trans (hd6.mono hb06.size)
  clear hd6
  go_region_held3 (fun X' => X'.cell? ⟨X, 0, none⟩ = some (.int .i64 g.n) ∧ X'.cell? ⟨X, 1, none⟩ = some (.slice Ag g.ls.length cg)) (first | go_keep | exact ⟨HX7.out.cell 0, HX7.out.cell 1⟩ | exact ⟨HX8.out.cell 0, HX8.out.cell 1⟩ | fail)
    (first
      | (go_at_call 27; refine (repairSafe_any _ g k f _ HGd.out hn).mono ?_
         rintro e w7 ⟨y7, rfl, hO7, hb7⟩
         rw [← HS.out] at hO7
         obtain ⟨A7, k7, rfl, _, _⟩ := hO7.lit
         have HX7 := hide (HXd.out.up hb7)
         have HG7 := hide (HGd.out.up hb7)
         have hb07 := hb0d.trans (hb7.mono hb0d.size))
      | (go_at_call 31; refine (reach_any _ g k _ HG7.out hn).mono ?_
         rintro e w8 ⟨y8, rfl, hO8, hb8⟩
         rw [← HT.out] at hO8
         obtain ⟨A8, k8, rfl, _, _⟩ := hO8.lit
         have HX8 := hide (HX7.out.up hb8)
         have hb08 := hb07.trans (hb8.mono hb07.size))
      | fail)
  all_goals
    go_wp2
    go_ret
    exact ⟨by first | rfl | exact ret_bool e9, hb08⟩
end Go.Proofs.Ytgaipicebjklaaa
