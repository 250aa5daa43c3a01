/- The laws FnSafeNodes and FnNeeded, walked: they return true for every code. Conditions: none. -/
import Derived.Test.YtgaipicebjklaaaDrawP
import Derived.Test.YtgaipicebjklaaaExG
import Derived.Test.YtgaipicebjklaaaLawH
namespace Go.Proofs.Ytgaipicebjklaaa
open Go.RowKit
theorem reachL_len (g : Gr) (f : Int) : (reachL g f).length ≤ 8 := okL_len fun h => selTo_le _ _ (by have := h.1.n; omega)
theorem mem_sel {p : Int → Prop} {j N : Nat} (h : j < N) : ((j : Int) ∈ selTo p N) ↔ p j := by
  rw [selTo_mem]; exact ⟨fun h => h.2, fun h1 => ⟨by omega, h1⟩⟩
set_option maxRecDepth 100000 in
set_option maxHeartbeats 1600000 in
theorem lawSafeNodes (v : Value) (bs : List Int) (w : World) (hv : SlR bc 1 w w.heap.size v bs) (hm : bs.length ≤ 9223372036854775807 ∧ ∀ n ∈ bs, 0 ≤ n ∧ n ≤ 255) :
    Calls Try.prog 8 #[v] w fun e w' => e = .returned (.bool true) ∧ Below w.heap.size w w' := by
  by_cases hl : 1048576 < bs.length
  · obtain ⟨A, cap, rfl, hc, hr⟩ := hv
    clear hr hm
    go_enter Try.func8, Try.ntmps8
    go_wp2
    go_ret
    exact ⟨rfl, Below.refl _ _⟩
  have hvv := hv
  obtain ⟨A, cap, rfl, hc, hr⟩ := hvv
  have HM := hide hm
  clear hm hr hc
  go_enter Try.func8, Try.ntmps8
  go_wp2_with fail
  refine (drawRS_any _ bs _ hv HM.out).mono ?_
  rintro e w1 ⟨x1, g, f, k, rfl, hO1, hl15, hb1⟩
  obtain ⟨Ag, cg, rfl⟩ := hO1.lit
  obtain ⟨X, hX⟩ : ∃ X, X = w1.heap.size := ⟨_, rfl⟩
  obtain ⟨w2, hw2⟩ : ∃ w2, w2 = w1.alloc (Obj.cells #[.int .i64 g.n, .slice Ag g.ls.length cg] 25) := ⟨_, rfl⟩
  have h12 : Below w1.heap.size w1 w2 := by rw [hw2]; exact below1 _ _
  have HX2 := hide (show Blk w2 X 25 #[.int .i64 g.n, .slice Ag g.ls.length cg] from by rw [hw2, hX]; exact Blk.new _ _ _)
  have HG2 := hide (hO1.grr.up h12)
  have hb2 := hb1.trans (h12.mono hb1.size)
  have hn : g.ls.length ≤ 1048576 := by omega
  have c0 := HX2.out.cell 0
  have c1 := HX2.out.cell 1
  clear hO1 hb1 h12 HM
  go_upto_region 4 with fail
  rw [← hw2, ← hX]
  clear hw2 hX
  obtain ⟨R, hR⟩ : ∃ R, safeL g f k = R := ⟨_, rfl⟩
  have HR := hide hR
  have hlo : R.length ≤ 1048576 := by rw [← hR]; exact Nat.le_trans (safeL_len g f k) (by decide)
  clear hR
  go_wp2_with fail
  refine (repairSafe_any _ g f k _ HG2.out hn).mono ?_
  rintro e w3 ⟨y3, rfl, hO3, hb3⟩
  rw [HR.out] at hO3
  obtain ⟨A3, k3, rfl, _, _⟩ := hO3.lit
  have HX3 := hide (HX2.out.up hb3)
  have HG3 := hide (HG2.out.up hb3)
  have hb03 := hb2.trans (hb3.mono hb2.size)
  clear c0 c1 HX2 HG2 hb2
  have c0 := HX3.out.cell 0
  have c1 := HX3.out.cell 1
  go_wp2_with fail
  refine (specSafe_any _ g f k _ HG3.out hn).mono ?_
  rintro e w4 ⟨y4, rfl, hO4, hb4⟩
  rw [HR.out] at hO4
  obtain ⟨A4, k4, rfl, _, _⟩ := hO4.lit
  have HX4 := hide (HX3.out.up hb4)
  have HG4 := hide (HG3.out.up hb4)
  have HO4 := hide (hO3.below hb4)
  have HW4 := hide hO4
  have hb04 := hb03.trans (hb4.mono hb03.size)
  clear c0 c1 HX3 HG3 hb03 hO3 hO4 hb3 hb4
  have c0 := HX4.out.cell 0
  have c1 := HX4.out.cell 1
  go_wp2_with fail
  refine (same_any _ _ R R _ (HO4.out.slr ic_len) (HW4.out.slr ic_len) hlo hlo).mono ?_
  rintro e w5 ⟨rfl, hb5⟩
  rw [eqB_self]
  have HX5 := hide (HX4.out.up hb5)
  have HG5 := hide (HG4.out.up hb5)
  have HO5 := hide (HO4.out.below hb5)
  have HW5 := hide (HW4.out.below hb5)
  have hb05 := hb04.trans (hb5.mono hb04.size)
  clear c0 c1 HX4 HG4 HO4 HW4 hb04 hb5
  have c0 := HX5.out.cell 0
  have c1 := HX5.out.cell 1
  by_cases h0 : R.length = 0
  · have e0 : ((R.length : Int) == 0) = true := by rw [beq_iff_eq]; omega
    clear h0
    go_wp2_with fail
    refine (same_any _ _ R R _ (HO5.out.slr ic_len) (HW5.out.slr ic_len) hlo hlo).mono ?_
    rintro e w6 ⟨rfl, hb6⟩
    rw [eqB_self]
    go_wp2
    go_ret
    exact ⟨rfl, hb05.trans (hb6.mono hb05.size)⟩
  have e0 : ((R.length : Int) == 0) = false := by rw [beq_eq_false_iff_ne]; omega
  have hK : Ok g f k := Classical.byContradiction fun h => h0 (by rw [← HR.out, safeL, okL_no h]; rfl)
  have HRs : Hid (R = selTo (Sf g (lkOf g k) f) g.n.toNat) := hide (by rw [← HR.out, safeL, okL_yes hK])
  obtain ⟨hn1, hn2⟩ := hK.1.n
  obtain ⟨hf1, hf2⟩ := hK.2.2
  have HASC : Hid (R.Pairwise (· < ·)) := hide (by rw [HRs.out]; exact selTo_asc _ _)
  have HFR : Hid (f ∈ R) := hide (by
    rw [HRs.out, selTo_mem]
    exact ⟨by omega, sf_self hK.1 (List.mem_of_getElem? (lk_at hK.2.1)) hK.2.2⟩)
  have HK := hide hK
  clear hK hf1 hf2
  go_wp2_with fail
  refine (reach_any _ g f _ HG5.out hn).mono ?_
  rintro e w6 ⟨v6, rfl, hO6, hb6⟩
  obtain ⟨T, hT⟩ : ∃ T, T = reachL g f := ⟨_, rfl⟩
  have hlt8 : T.length ≤ 1048576 := by rw [hT]; exact Nat.le_trans (reachL_len g f) (by decide)
  rw [← hT] at hO6
  have HT : Hid (T = selTo (fun y => 0 ≤ D g f y) g.n.toNat) := hide (by rw [hT, reachL, okL_yes ⟨HK.out.1, HK.out.2.2⟩])
  clear hT
  have hb06 := hb05.trans (hb6.mono hb05.size)
  have HX6 := hide (HX5.out.up hb6)
  have HG6 := hide (HG5.out.up hb6)
  have HO6 := hide (HO5.out.below hb6)
  have HT6 := hide hO6
  obtain ⟨A6, k6, rfl, _, _⟩ := hO6.lit
  clear c0 c1 HX5 HG5 HO5 HW5 hb05 hb6 hO6
  go_upto_region 9 with fail
  go_wp2
  go_loopg [9] (g.n.toNat) (fun gg iv wr => ∃ j : Nat, j + gg = g.n.toNat ∧ iv = .int .i64 j ∧ Below w6.heap.size w6 wr)
  case atStart => exact ⟨0, by omega, rfl, Below.refl _ _⟩
  case round =>
    obtain ⟨j, hj, rfl, hbe⟩ := hrel
    have c0 := (HX6.out.up hbe).cell 0
    by_cases hlt : (j : Int) < g.n
    · have hjn : j < g.n.toNat := by omega
      by_cases hQ : 0 ≤ D g f j
      · by_cases hU : Us g (lkOf g k) f j
        · have HQ : Hid ((j : Int) ∉ R ∧ (j : Int) ∈ T) := hide ⟨by rw [HRs.out, mem_sel hjn]; exact fun h => h.2 hU, by rw [HT.out, mem_sel hjn]; exact hQ⟩
          have HU : Hid ((GV g ∧ Ix g k ∧ Nd g f ∧ Nd g j) ∧ Us g (lkOf g k) f j) := hide ⟨⟨HK.out.1, HK.out.2.1, HK.out.2.2, by omega, by omega⟩, hU⟩
          clear hQ hU
          go_wp2_with fail
          refine (hasInt_any _ R (j : Int) _ ((HO6.out.below hbe).slr ic_len) hlo).mono ?_
          rintro e wr1 ⟨rfl, hba⟩
          rw [tb_no HQ.out.1]
          have hbe1 := hbe.trans (hba.mono hbe.size)
          clear hba
          go_wp2_with fail
          refine (hasInt_any _ T (j : Int) _ ((HT6.out.below hbe1).slr ic_len) hlt8).mono ?_
          rintro e wr2 ⟨rfl, hba⟩
          rw [tb_yes HQ.out.2]
          have hbe2 := hbe1.trans (hba.mono hbe1.size)
          clear hba
          clear c0
          have c0 := (HX6.out.up hbe2).cell 0
          have c1 := (HX6.out.up hbe2).cell 1
          go_wp2_with fail
          refine (linkUsedX_any _ g f (j : Int) k _ (HG6.out.up hbe2) hn).mono ?_
          rintro e wr3 ⟨rfl, hb3⟩
          rw [tb_yes HU.out]
          clear c0 c1
          go_wp2
          go_roundg (gk - 1)
          case measure => omega
          case rel => exact ⟨j + 1, by omega, by go_num, hbe2.trans (hb3.mono hbe2.size)⟩
        · have HQ : Hid ((j : Int) ∈ R ∧ (j : Int) ∈ T) := hide ⟨by rw [HRs.out, mem_sel hjn]; exact ⟨hQ, hU⟩, by rw [HT.out, mem_sel hjn]; exact hQ⟩
          have HU : Hid (¬ ((GV g ∧ Ix g k ∧ Nd g f ∧ Nd g j) ∧ Us g (lkOf g k) f j)) := hide fun h => hU h.2
          clear hQ hU
          go_wp2_with fail
          refine (hasInt_any _ R (j : Int) _ ((HO6.out.below hbe).slr ic_len) hlo).mono ?_
          rintro e wr1 ⟨rfl, hba⟩
          rw [tb_yes HQ.out.1]
          have hbe1 := hbe.trans (hba.mono hbe.size)
          clear hba
          go_wp2_with fail
          refine (hasInt_any _ T (j : Int) _ ((HT6.out.below hbe1).slr ic_len) hlt8).mono ?_
          rintro e wr2 ⟨rfl, hba⟩
          rw [tb_yes HQ.out.2]
          have hbe2 := hbe1.trans (hba.mono hbe1.size)
          clear hba
          clear c0
          have c0 := (HX6.out.up hbe2).cell 0
          have c1 := (HX6.out.up hbe2).cell 1
          go_wp2_with fail
          refine (linkUsedX_any _ g f (j : Int) k _ (HG6.out.up hbe2) hn).mono ?_
          rintro e wr3 ⟨rfl, hb3⟩
          rw [tb_no HU.out]
          clear c0 c1
          go_wp2
          go_roundg (gk - 1)
          case measure => omega
          case rel => exact ⟨j + 1, by omega, by go_num, hbe2.trans (hb3.mono hbe2.size)⟩
      · have HQ : Hid ((j : Int) ∉ R ∧ (j : Int) ∉ T) := hide ⟨by rw [HRs.out, mem_sel hjn]; exact fun h => hQ h.1, by rw [HT.out, mem_sel hjn]; exact hQ⟩
        clear hQ
        go_wp2_with fail
        refine (hasInt_any _ R (j : Int) _ ((HO6.out.below hbe).slr ic_len) hlo).mono ?_
        rintro e wr1 ⟨rfl, hba⟩
        rw [tb_no HQ.out.1]
        have hbe1 := hbe.trans (hba.mono hbe.size)
        clear hba
        go_wp2_with fail
        refine (hasInt_any _ T (j : Int) _ ((HT6.out.below hbe1).slr ic_len) hlt8).mono ?_
        rintro e wr2 ⟨rfl, hba⟩
        rw [tb_no HQ.out.2]
        have hbe2 := hbe1.trans (hba.mono hbe1.size)
        clear hba
        clear c0
        go_wp2
        go_roundg (gk - 1)
        case measure => omega
        case rel => exact ⟨j + 1, by omega, by go_num, hbe2⟩
    · go_wp2_with fail
      refine (ascending_any _ R _ ((HO6.out.below hbe).slr ic_len) hlo HASC.out).mono ?_
      rintro e wr1 ⟨rfl, hba⟩
      have hbe1 := hbe.trans (hba.mono hbe.size)
      clear c0 hba
      go_wp2_with fail
      refine (hasInt_any _ R f _ ((HO6.out.below hbe1).slr ic_len) hlo).mono ?_
      rintro e wr2 ⟨rfl, hbb⟩
      rw [tb_yes HFR.out]
      have hbe2 := hbe1.trans (hbb.mono hbe1.size)
      go_wp2
      go_ret
      exact ⟨rfl, hb06.trans (hbe2.mono hb06.size)⟩
set_option maxRecDepth 100000 in
set_option maxHeartbeats 1600000 in
theorem lawNeeded (v : Value) (bs : List Int) (w : World) (hv : SlR bc 1 w w.heap.size v bs) (hm : bs.length ≤ 9223372036854775807 ∧ ∀ n ∈ bs, 0 ≤ n ∧ n ≤ 255) :
    Calls Try.prog 7 #[v] w fun e w' => e = .returned (.bool true) ∧ Below w.heap.size w w' := by
  by_cases hl : 1048576 < bs.length
  · obtain ⟨A, cap, rfl, hc, hr⟩ := hv
    clear hr hm
    go_enter Try.func7, Try.ntmps7
    go_wp2
    go_ret
    exact ⟨rfl, Below.refl _ _⟩
  have hvv := hv
  obtain ⟨A, cap, rfl, hc, hr⟩ := hvv
  have HM := hide hm
  clear hm hr hc
  go_enter Try.func7, Try.ntmps7
  go_wp2_with fail
  refine (drawRN_any _ bs _ hv HM.out).mono ?_
  rintro e w1 ⟨x1, g, f, k, rfl, hO1, hl15, hb1⟩
  obtain ⟨Ag, cg, rfl⟩ := hO1.lit
  obtain ⟨X, hX⟩ : ∃ X, X = w1.heap.size := ⟨_, rfl⟩
  obtain ⟨w2, hw2⟩ : ∃ w2, w2 = w1.alloc (Obj.cells #[.int .i64 g.n, .slice Ag g.ls.length cg] 25) := ⟨_, rfl⟩
  have h12 : Below w1.heap.size w1 w2 := by rw [hw2]; exact below1 _ _
  have HX2 := hide (show Blk w2 X 25 #[.int .i64 g.n, .slice Ag g.ls.length cg] from by rw [hw2, hX]; exact Blk.new _ _ _)
  have HG2 := hide (hO1.grr.up h12)
  have hb2 := hb1.trans (h12.mono hb1.size)
  have hn : g.ls.length ≤ 1048576 := by omega
  have c0 := HX2.out.cell 0
  have c1 := HX2.out.cell 1
  clear hO1 hb1 h12 HM
  go_upto_region 4 with fail
  rw [← hw2, ← hX]
  clear hw2 hX
  obtain ⟨R, hR⟩ : ∃ R, needL g f k = R := ⟨_, rfl⟩
  have HR := hide hR
  have hlo : R.length ≤ 1048576 := by rw [← hR]; exact Nat.le_trans (needL_len g f k) (by decide)
  clear hR
  go_wp2_with fail
  refine (repairNeeded_any _ g f k _ HG2.out hn).mono ?_
  rintro e w3 ⟨y3, rfl, hO3, hb3⟩
  rw [HR.out] at hO3
  obtain ⟨A3, k3, rfl, _, _⟩ := hO3.lit
  have HX3 := hide (HX2.out.up hb3)
  have HG3 := hide (HG2.out.up hb3)
  have hb03 := hb2.trans (hb3.mono hb2.size)
  clear c0 c1 HX2 HG2 hb2
  have c0 := HX3.out.cell 0
  have c1 := HX3.out.cell 1
  go_wp2_with fail
  refine (specNeed_any _ g f k _ HG3.out hn).mono ?_
  rintro e w4 ⟨y4, rfl, hO4, hb4⟩
  rw [HR.out] at hO4
  obtain ⟨A4, k4, rfl, _, _⟩ := hO4.lit
  have HX4 := hide (HX3.out.up hb4)
  have HG4 := hide (HG3.out.up hb4)
  have HO4 := hide (hO3.below hb4)
  have HW4 := hide hO4
  have hb04 := hb03.trans (hb4.mono hb03.size)
  clear c0 c1 HX3 HG3 hb03 hO3 hO4 hb3 hb4
  have c0 := HX4.out.cell 0
  have c1 := HX4.out.cell 1
  go_wp2_with fail
  refine (same_any _ _ R R _ (HO4.out.slr ic_len) (HW4.out.slr ic_len) hlo hlo).mono ?_
  rintro e w5 ⟨rfl, hb5⟩
  rw [eqB_self]
  have HX5 := hide (HX4.out.up hb5)
  have HG5 := hide (HG4.out.up hb5)
  have HO5 := hide (HO4.out.below hb5)
  have HW5 := hide (HW4.out.below hb5)
  have hb05 := hb04.trans (hb5.mono hb04.size)
  clear c0 c1 HX4 HG4 HO4 HW4 hb04 hb5
  have c0 := HX5.out.cell 0
  have c1 := HX5.out.cell 1
  go_wp2_with fail
  refine (specValid_any _ g _ HG5.out hn).mono ?_
  rintro e w6 ⟨rfl, hb6⟩
  have HX6 := hide (HX5.out.up hb6)
  have HG6 := hide (HG5.out.up hb6)
  have HO6 := hide (HO5.out.below hb6)
  have HW6 := hide (HW5.out.below hb6)
  have hb06 := hb05.trans (hb6.mono hb05.size)
  clear c0 c1 HX5 HG5 HO5 HW5 hb05 hb6
  have c0 := HX6.out.cell 0
  have c1 := HX6.out.cell 1
  by_cases hV' : ¬ GV g
  · rw [tb_no hV']
    clear hV'
    go_wp2_with fail
    refine (same_any _ _ R R _ (HO6.out.slr ic_len) (HW6.out.slr ic_len) hlo hlo).mono ?_
    rintro e w7 ⟨rfl, hb7⟩
    rw [eqB_self]
    go_wp2
    go_ret
    exact ⟨rfl, hb06.trans (hb7.mono hb06.size)⟩
  have hV : GV g := Classical.not_not.1 hV'
  clear hV'
  rw [tb_yes hV]
  obtain ⟨hn1, hn2⟩ := hV.n
  have HV := hide hV
  clear hV
  by_cases hk0 : k < 0
  · go_wp2_with fail
    refine (same_any _ _ R R _ (HO6.out.slr ic_len) (HW6.out.slr ic_len) hlo hlo).mono ?_
    rintro e w7 ⟨rfl, hb7⟩
    rw [eqB_self]
    go_wp2
    go_ret
    exact ⟨rfl, hb06.trans (hb7.mono hb06.size)⟩
  by_cases hkn : (g.ls.length : Int) ≤ k
  · go_wp2_with fail
    refine (same_any _ _ R R _ (HO6.out.slr ic_len) (HW6.out.slr ic_len) hlo hlo).mono ?_
    rintro e w7 ⟨rfl, hb7⟩
    rw [eqB_self]
    go_wp2
    go_ret
    exact ⟨rfl, hb06.trans (hb7.mono hb06.size)⟩
  by_cases hf0 : f < 0
  · go_wp2_with fail
    refine (same_any _ _ R R _ (HO6.out.slr ic_len) (HW6.out.slr ic_len) hlo hlo).mono ?_
    rintro e w7 ⟨rfl, hb7⟩
    rw [eqB_self]
    go_wp2
    go_ret
    exact ⟨rfl, hb06.trans (hb7.mono hb06.size)⟩
  by_cases hfn : g.n ≤ f
  · go_wp2_with fail
    refine (same_any _ _ R R _ (HO6.out.slr ic_len) (HW6.out.slr ic_len) hlo hlo).mono ?_
    rintro e w7 ⟨rfl, hb7⟩
    rw [eqB_self]
    go_wp2
    go_ret
    exact ⟨rfl, hb06.trans (hb7.mono hb06.size)⟩
  have hK : Ok g f k := ⟨HV.out, ⟨by omega, by omega⟩, by omega, by omega⟩
  have HRs : Hid (R = selTo (Us g (lkOf g k) f) g.n.toNat) := hide (by rw [← HR.out, needL, okL_yes hK])
  have HK := hide hK
  clear hK
  go_wp2_with fail
  refine (repairSafe_any _ g f k _ HG6.out hn).mono ?_
  rintro e w7 ⟨v7, rfl, hO7, hb7⟩
  obtain ⟨S, hS⟩ : ∃ S, S = safeL g f k := ⟨_, rfl⟩
  have hls8 : S.length ≤ 1048576 := by rw [hS]; exact Nat.le_trans (safeL_len g f k) (by decide)
  rw [← hS] at hO7
  have HS : Hid (S = selTo (Sf g (lkOf g k) f) g.n.toNat) := hide (by rw [hS, safeL, okL_yes HK.out])
  obtain ⟨A7, k7, rfl, _, _⟩ := hO7.lit
  have HX7 := hide (HX6.out.up hb7)
  have HG7 := hide (HG6.out.up hb7)
  have HO7 := hide (HO6.out.below hb7)
  have HS7 := hide hO7
  have hb07 := hb06.trans (hb7.mono hb06.size)
  clear hS c0 c1 HX6 HG6 HO6 HW6 hb06 hb7 hO7
  have c0 := HX7.out.cell 0
  have c1 := HX7.out.cell 1
  go_wp2_with fail
  refine (reach_any _ g f _ HG7.out hn).mono ?_
  rintro e w8 ⟨v8, rfl, hO8, hb8⟩
  obtain ⟨T, hT⟩ : ∃ T, T = reachL g f := ⟨_, rfl⟩
  have hlt8 : T.length ≤ 1048576 := by rw [hT]; exact Nat.le_trans (reachL_len g f) (by decide)
  rw [← hT] at hO8
  have HT : Hid (T = selTo (fun y => 0 ≤ D g f y) g.n.toNat) := hide (by rw [hT, reachL, okL_yes ⟨HK.out.1, HK.out.2.2⟩])
  clear hT
  obtain ⟨A8, k8, rfl, _, _⟩ := hO8.lit
  have hb08 := hb07.trans (hb8.mono hb07.size)
  have HX8 := hide (HX7.out.up hb8)
  have HO8 := hide (HO7.out.below hb8)
  have HS8 := hide (HS7.out.below hb8)
  have HT8 := hide hO8
  have hsum : R.length + S.length = T.length := by
    rw [HRs.out, HS.out, HT.out]
    refine selTo_two fun x hx => ⟨⟨fun h => ?_, fun h => ?_⟩, fun h => h.2.2 h.1⟩
    · by_cases hu : Us g (lkOf g k) f x
      · exact .inl hu
      · exact .inr ⟨h, hu⟩
    · exact h.elim (fun h => h.1) (fun h => h.1)
  have e9 : ((R.length : Int) + (S.length : Int) == (T.length : Int)) = true := by rw [beq_iff_eq]; omega
  clear c0 c1 HX7 HG7 HO7 HS7 hb07 hb8 hO8 hsum
  go_upto_region 10 with fail
  go_wp2
  go_loopg [10] (g.n.toNat) (fun gg iv wr => ∃ j : Nat, j + gg = g.n.toNat ∧ iv = .int .i64 j ∧ Below w8.heap.size w8 wr)
  case atStart => exact ⟨0, by omega, rfl, Below.refl _ _⟩
  case round =>
    obtain ⟨j, hj, rfl, hbe⟩ := hrel
    have c0 := (HX8.out.up hbe).cell 0
    by_cases hlt : (j : Int) < g.n
    · have hjn : j < g.n.toNat := by omega
      by_cases hQ : 0 ≤ D g f j
      · by_cases hU : Us g (lkOf g k) f j
        · have HQ : Hid ((j : Int) ∈ R ∧ (j : Int) ∉ S ∧ (j : Int) ∈ T) := hide ⟨by rw [HRs.out, mem_sel hjn]; exact hU, by rw [HS.out, mem_sel hjn]; exact fun h => h.2 hU, by rw [HT.out, mem_sel hjn]; exact hQ⟩
          clear hQ hU
          go_wp2_with fail
          refine (hasInt_any _ T (j : Int) _ ((HT8.out.below hbe).slr ic_len) hlt8).mono ?_
          rintro e wr1 ⟨rfl, hba⟩
          rw [tb_yes HQ.out.2.2]
          have hbe1 := hbe.trans (hba.mono hbe.size)
          clear hba
          go_wp2_with fail
          refine (hasInt_any _ R (j : Int) _ ((HO8.out.below hbe1).slr ic_len) hlo).mono ?_
          rintro e wr2 ⟨rfl, hba⟩
          rw [tb_yes HQ.out.1]
          have hbe2 := hbe1.trans (hba.mono hbe1.size)
          clear hba
          go_wp2_with fail
          refine (hasInt_any _ S (j : Int) _ ((HS8.out.below hbe2).slr ic_len) hls8).mono ?_
          rintro e wr3 ⟨rfl, hba⟩
          rw [tb_no HQ.out.2.1]
          have hbe3 := hbe2.trans (hba.mono hbe2.size)
          clear hba
          clear c0
          go_wp2
          go_roundg (gk - 1)
          case measure => omega
          case rel => exact ⟨j + 1, by omega, by go_num, hbe3⟩
        · have HQ : Hid ((j : Int) ∉ R ∧ (j : Int) ∈ S ∧ (j : Int) ∈ T) := hide ⟨by rw [HRs.out, mem_sel hjn]; exact hU, by rw [HS.out, mem_sel hjn]; exact ⟨hQ, hU⟩, by rw [HT.out, mem_sel hjn]; exact hQ⟩
          clear hQ hU
          go_wp2_with fail
          refine (hasInt_any _ T (j : Int) _ ((HT8.out.below hbe).slr ic_len) hlt8).mono ?_
          rintro e wr1 ⟨rfl, hba⟩
          rw [tb_yes HQ.out.2.2]
          have hbe1 := hbe.trans (hba.mono hbe.size)
          clear hba
          go_wp2_with fail
          refine (hasInt_any _ R (j : Int) _ ((HO8.out.below hbe1).slr ic_len) hlo).mono ?_
          rintro e wr2 ⟨rfl, hba⟩
          rw [tb_no HQ.out.1]
          have hbe2 := hbe1.trans (hba.mono hbe1.size)
          clear hba
          go_wp2_with fail
          refine (hasInt_any _ S (j : Int) _ ((HS8.out.below hbe2).slr ic_len) hls8).mono ?_
          rintro e wr3 ⟨rfl, hba⟩
          rw [tb_yes HQ.out.2.1]
          have hbe3 := hbe2.trans (hba.mono hbe2.size)
          clear hba
          clear c0
          go_wp2
          go_roundg (gk - 1)
          case measure => omega
          case rel => exact ⟨j + 1, by omega, by go_num, hbe3⟩
      · have HQ : Hid ((j : Int) ∉ R ∧ (j : Int) ∉ S ∧ (j : Int) ∉ T) := hide ⟨by rw [HRs.out, mem_sel hjn]; exact fun h => hQ h.1, by rw [HS.out, mem_sel hjn]; exact fun h => hQ h.1, by rw [HT.out, mem_sel hjn]; exact hQ⟩
        clear hQ
        go_wp2_with fail
        refine (hasInt_any _ T (j : Int) _ ((HT8.out.below hbe).slr ic_len) hlt8).mono ?_
        rintro e wr1 ⟨rfl, hba⟩
        rw [tb_no HQ.out.2.2]
        have hbe1 := hbe.trans (hba.mono hbe.size)
        clear hba
        go_wp2_with fail
        refine (hasInt_any _ R (j : Int) _ ((HO8.out.below hbe1).slr ic_len) hlo).mono ?_
        rintro e wr2 ⟨rfl, hba⟩
        rw [tb_no HQ.out.1]
        have hbe2 := hbe1.trans (hba.mono hbe1.size)
        clear hba
        go_wp2_with fail
        refine (hasInt_any _ S (j : Int) _ ((HS8.out.below hbe2).slr ic_len) hls8).mono ?_
        rintro e wr3 ⟨rfl, hba⟩
        rw [tb_no HQ.out.2.1]
        have hbe3 := hbe2.trans (hba.mono hbe2.size)
        clear hba
        clear c0
        go_wp2
        go_roundg (gk - 1)
        case measure => omega
        case rel => exact ⟨j + 1, by omega, by go_num, hbe3⟩
    · go_wp2
      go_ret
      exact ⟨by first | rfl | rw [e9], hb08.trans (hbe.mono hb08.size)⟩
end Go.Proofs.Ytgaipicebjklaaa
