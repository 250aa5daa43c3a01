/- The laws FnRepairOwn, FnRepairShort and FnRepairAlways, walked: they return true for every code. Conditions: none. -/
import Derived.Test.YtenfdekjnelkoaaDrawR
import Derived.Test.YtenfdekjnelkoaaStackS
import Derived.Test.YtenfdekjnelkoaaLbW
import Derived.Test.YtenfdekjnelkoaaLawH
namespace Go.Proofs.Ytenfdekjnelkoaa
open Go.RowKit
theorem repL_own {g : Gr} {f k : Int} (h : Ok g f k) : repL g f k f = [f] := by
  rw [repL, okL_yes ⟨h, h.2.2⟩]
  exact pathL_is .done
set_option maxRecDepth 100000 in
set_option maxHeartbeats 1600000 in
theorem lawRepairOwn (v : Value) (bs : List Int) (w : World) (hv : SlR bc 1 w w.heap.size v bs) (hm : bs.length ≤ 9223372036854775807 ∧ ∀ n ∈ bs, 0 ≤ n ∧ n ≤ 255) :
    Calls Try.prog 6 #[v] w fun e w' => e = .returned (.bool true) ∧ Below w.heap.size w w' := by
  by_cases hl : 1048576 < bs.length
  · obtain ⟨A, cap, rfl, hc, hr⟩ := hv
    clear hr hm
    go_enter Try.func6, Try.ntmps6
    go_wp2
    go_ret
    exact ⟨rfl, Below.refl _ _⟩
  have hvv := hv
  obtain ⟨A, cap, rfl, hc, hr⟩ := hvv
  have HM := hide hm
  clear hm hr hc
  go_enter Try.func6, Try.ntmps6
  go_wp2_with fail
  refine (drawRS4_any _ bs _ hv HM.out).mono ?_
  rintro e w1 ⟨x1, g, f, k, t, rfl, hO1, hl15, hb1⟩
  obtain ⟨Ag, cg, rfl⟩ := hO1.lit
  obtain ⟨X, hX⟩ : ∃ X, X = w1.heap.size := ⟨_, rfl⟩
  obtain ⟨w2, hw2⟩ : ∃ w2, w2 = w1.alloc (Obj.cells #[.int .i64 g.n, .slice Ag g.ls.length cg] 25) := ⟨_, rfl⟩
  have h12 : Below w1.heap.size w1 w2 := by rw [hw2]; exact below1 _ _
  have HX2 := hide (show Blk w2 X 25 #[.int .i64 g.n, .slice Ag g.ls.length cg] from by rw [hw2, hX]; exact Blk.new _ _ _)
  have HG2 := hide (hO1.grr.up h12)
  have hb2 := hb1.trans (h12.mono hb1.size)
  have hn : g.ls.length ≤ 1048576 := by omega
  have c0 := HX2.out.cell 0
  have c1 := HX2.out.cell 1
  clear hO1 hb1 h12 HM
  go_upto_region 4 with fail
  rw [← hw2, ← hX]
  clear hw2 hX
  obtain ⟨bv, hbv⟩ : ∃ bv, tb (repL g f k t ≠ []) = bv := ⟨_, rfl⟩
  have HBV := hide hbv
  clear hbv
  go_wp2_with fail
  refine (repairStack_any _ g f k t _ HG2.out hn).mono ?_
  rintro e w3 ⟨y3, S, rfl, hO3, hR3, hb3⟩
  rw [HBV.out]
  obtain ⟨A3, k3, rfl, _, _⟩ := hO3.lit
  have HX3 := hide (HX2.out.up hb3)
  have HG3 := hide (HG2.out.up hb3)
  have HR := hide hR3
  have hb03 := hb2.trans (hb3.mono hb2.size)
  clear c0 c1 HX2 HG2 hb2
  have c0 := HX3.out.cell 0
  have c1 := HX3.out.cell 1
  go_wp2_with fail
  refine (specStack_any _ g f k t _ HG3.out hn).mono ?_
  rintro e w4 ⟨y4, S4, rfl, hO4, hR4, hb4⟩
  rw [HBV.out]
  obtain rfl : S4 = S := (hR4.uniq hR3).1
  obtain ⟨A4, k4, rfl, _, _⟩ := hO4.lit
  have hlo : S4.length ≤ 7 := hR3.len
  have hlo' : S4.length ≤ 1048576 := by omega
  have HX4 := hide (HX3.out.up hb4)
  have HG4 := hide (HG3.out.up hb4)
  have HO4 := hide (hO3.below hb4)
  have HW4 := hide hO4
  have hb04 := hb03.trans (hb4.mono hb03.size)
  clear c0 c1 HX3 HG3 hb03 hO3 hO4 hb3 hb4 hR3 hR4
  have c0 := HX4.out.cell 0
  have c1 := HX4.out.cell 1
  have n1 : (bv != bv) = false := by simp
  have n2 : (bv == bv) = true := by simp
  go_wp2_with fail
  refine (sameL_any _ _ S4 S4 _ (HO4.out.slr lbc_len) (HW4.out.slr lbc_len) hlo' hlo').mono ?_
  rintro e w5 ⟨rfl, hb5⟩
  rw [eqB_self]
  have HX5 := hide (HX4.out.up hb5)
  have HG5 := hide (HG4.out.up hb5)
  have HO5 := hide (HO4.out.below hb5)
  have HW5 := hide (HW4.out.below hb5)
  have hb05 := hb04.trans (hb5.mono hb04.size)
  clear c0 c1 HX4 HG4 HO4 HW4 hb04 hb5
  have c0 := HX5.out.cell 0
  have c1 := HX5.out.cell 1
  go_wp2_with fail
  refine (specValid_any _ g _ HG5.out hn).mono ?_
  rintro e w6 ⟨rfl, hb6⟩
  have HX6 := hide (HX5.out.up hb6)
  have HG6 := hide (HG5.out.up hb6)
  have HO6 := hide (HO5.out.below hb6)
  have HW6 := hide (HW5.out.below hb6)
  have hb06 := hb05.trans (hb6.mono hb05.size)
  clear c0 c1 HX5 HG5 HO5 HW5 hb05 hb6
  have c0 := HX6.out.cell 0
  have c1 := HX6.out.cell 1
  by_cases hV' : ¬ GV g
  · rw [tb_no hV']
    clear hV'
    go_wp2_with fail
    refine (sameL_any _ _ S4 S4 _ (HO6.out.slr lbc_len) (HW6.out.slr lbc_len) hlo' hlo').mono ?_
    rintro e wz ⟨rfl, hbz⟩
    rw [eqB_self]
    go_wp2
    go_ret
    exact ⟨rfl, hb06.trans (hbz.mono hb06.size)⟩
  have hV : GV g := Classical.not_not.1 hV'
  clear hV'
  rw [tb_yes hV]
  obtain ⟨hn1, hn2⟩ := hV.n
  have HV := hide hV
  clear hV
  by_cases hk0 : k < 0
  · go_wp2_with fail
    refine (sameL_any _ _ S4 S4 _ (HO6.out.slr lbc_len) (HW6.out.slr lbc_len) hlo' hlo').mono ?_
    rintro e wz ⟨rfl, hbz⟩
    rw [eqB_self]
    go_wp2
    go_ret
    exact ⟨rfl, hb06.trans (hbz.mono hb06.size)⟩
  by_cases hkn : (g.ls.length : Int) ≤ k
  · go_wp2_with fail
    refine (sameL_any _ _ S4 S4 _ (HO6.out.slr lbc_len) (HW6.out.slr lbc_len) hlo' hlo').mono ?_
    rintro e wz ⟨rfl, hbz⟩
    rw [eqB_self]
    go_wp2
    go_ret
    exact ⟨rfl, hb06.trans (hbz.mono hb06.size)⟩
  by_cases hf0 : f < 0
  · go_wp2_with fail
    refine (sameL_any _ _ S4 S4 _ (HO6.out.slr lbc_len) (HW6.out.slr lbc_len) hlo' hlo').mono ?_
    rintro e wz ⟨rfl, hbz⟩
    rw [eqB_self]
    go_wp2
    go_ret
    exact ⟨rfl, hb06.trans (hbz.mono hb06.size)⟩
  by_cases hfn : g.n ≤ f
  · go_wp2_with fail
    refine (sameL_any _ _ S4 S4 _ (HO6.out.slr lbc_len) (HW6.out.slr lbc_len) hlo' hlo').mono ?_
    rintro e wz ⟨rfl, hbz⟩
    rw [eqB_self]
    go_wp2
    go_ret
    exact ⟨rfl, hb06.trans (hbz.mono hb06.size)⟩
  have hK : Ok g f k := ⟨HV.out, ⟨by omega, by omega⟩, by omega, by omega⟩
  have HK := hide hK
  clear hK
  go_wp2_with fail
  refine (repairStack_any _ g f k f _ HG6.out hn).mono ?_
  rintro e w7 ⟨y7, S7, rfl, hO7, hR7, hb7⟩
  have hne : repL g f k f ≠ [] := by rw [repL_own HK.out]; simp
  rw [tb_yes hne]
  have hS7 : S7 = [] := by
    have h := (hR7.1 hne).2
    rw [repL_own HK.out] at h
    exact (h.uniq (.done (by simp)))
  subst hS7
  obtain ⟨A7, k7, rfl, _, _⟩ := hO7.lit
  clear hO7 hR7 hne c0 c1
  go_wp2
  go_ret
  exact ⟨rfl, hb06.trans (hb7.mono hb06.size)⟩
set_option maxRecDepth 100000 in
set_option maxHeartbeats 1600000 in
theorem lawRepairShort (v : Value) (bs : List Int) (w : World) (hv : SlR bc 1 w w.heap.size v bs) (hm : bs.length ≤ 9223372036854775807 ∧ ∀ n ∈ bs, 0 ≤ n ∧ n ≤ 255) :
    Calls Try.prog 7 #[v] w fun e w' => e = .returned (.bool true) ∧ Below w.heap.size w w' := by
  by_cases hl : 1048576 < bs.length
  · obtain ⟨A, cap, rfl, hc, hr⟩ := hv
    clear hr hm
    go_enter Try.func7, Try.ntmps7
    go_wp2
    go_ret
    exact ⟨rfl, Below.refl _ _⟩
  have hvv := hv
  obtain ⟨A, cap, rfl, hc, hr⟩ := hvv
  have HM := hide hm
  clear hm hr hc
  go_enter Try.func7, Try.ntmps7
  go_wp2_with fail
  refine (drawRS4_any _ bs _ hv HM.out).mono ?_
  rintro e w1 ⟨x1, g, f, k, t, rfl, hO1, hl15, hb1⟩
  obtain ⟨Ag, cg, rfl⟩ := hO1.lit
  obtain ⟨X, hX⟩ : ∃ X, X = w1.heap.size := ⟨_, rfl⟩
  obtain ⟨w2, hw2⟩ : ∃ w2, w2 = w1.alloc (Obj.cells #[.int .i64 g.n, .slice Ag g.ls.length cg] 25) := ⟨_, rfl⟩
  have h12 : Below w1.heap.size w1 w2 := by rw [hw2]; exact below1 _ _
  have HX2 := hide (show Blk w2 X 25 #[.int .i64 g.n, .slice Ag g.ls.length cg] from by rw [hw2, hX]; exact Blk.new _ _ _)
  have HG2 := hide (hO1.grr.up h12)
  have hb2 := hb1.trans (h12.mono hb1.size)
  have hn : g.ls.length ≤ 1048576 := by omega
  have c0 := HX2.out.cell 0
  have c1 := HX2.out.cell 1
  clear hO1 hb1 h12 HM
  go_upto_region 4 with fail
  rw [← hw2, ← hX]
  clear hw2 hX
  obtain ⟨bv, hbv⟩ : ∃ bv, tb (repL g f k t ≠ []) = bv := ⟨_, rfl⟩
  have HBV := hide hbv
  clear hbv
  go_wp2_with fail
  refine (repairStack_any _ g f k t _ HG2.out hn).mono ?_
  rintro e w3 ⟨y3, S, rfl, hO3, hR3, hb3⟩
  rw [HBV.out]
  obtain ⟨A3, k3, rfl, _, _⟩ := hO3.lit
  have HX3 := hide (HX2.out.up hb3)
  have HG3 := hide (HG2.out.up hb3)
  have HR := hide hR3
  have hb03 := hb2.trans (hb3.mono hb2.size)
  clear c0 c1 HX2 HG2 hb2
  have c0 := HX3.out.cell 0
  have c1 := HX3.out.cell 1
  go_wp2_with fail
  refine (specStack_any _ g f k t _ HG3.out hn).mono ?_
  rintro e w4 ⟨y4, S4, rfl, hO4, hR4, hb4⟩
  rw [HBV.out]
  obtain rfl : S4 = S := (hR4.uniq hR3).1
  obtain ⟨A4, k4, rfl, _, _⟩ := hO4.lit
  have hlo : S4.length ≤ 7 := hR3.len
  have hlo' : S4.length ≤ 1048576 := by omega
  have HX4 := hide (HX3.out.up hb4)
  have HG4 := hide (HG3.out.up hb4)
  have HO4 := hide (hO3.below hb4)
  have HW4 := hide hO4
  have hb04 := hb03.trans (hb4.mono hb03.size)
  clear c0 c1 HX3 HG3 hb03 hO3 hO4 hb3 hb4 hR3 hR4
  have c0 := HX4.out.cell 0
  have c1 := HX4.out.cell 1
  have n1 : (bv != bv) = false := by simp
  have n2 : (bv == bv) = true := by simp
  by_cases hp0 : repL g f k t = []
  · have hbf : bv = false := by rw [← HBV.out, tb_no (fun h : repL g f k t ≠ [] => h hp0)]
    subst hbf
    clear hp0
    go_wp2_with fail
    refine (sameL_any _ _ S4 S4 _ (HO4.out.slr lbc_len) (HW4.out.slr lbc_len) hlo' hlo').mono ?_
    rintro e w5 ⟨rfl, hb5⟩
    rw [eqB_self]
    have HX5 := hide (HX4.out.up hb5)
    have HG5 := hide (HG4.out.up hb5)
    have HO5 := hide (HO4.out.below hb5)
    have HW5 := hide (HW4.out.below hb5)
    have hb05 := hb04.trans (hb5.mono hb04.size)
    clear c0 c1 HX4 HG4 HO4 HW4 hb04 hb5
    have c0 := HX5.out.cell 0
    have c1 := HX5.out.cell 1
    go_wp2_with fail
    refine (sameL_any _ _ S4 S4 _ (HO5.out.slr lbc_len) (HW5.out.slr lbc_len) hlo' hlo').mono ?_
    rintro e wz ⟨rfl, hbz⟩
    rw [eqB_self]
    go_wp2
    go_ret
    exact ⟨rfl, hb05.trans (hbz.mono hb05.size)⟩
  have hbf : bv = true := by rw [← HBV.out, tb_yes hp0]
  subst hbf
  have HRP := hide (repL_pt hp0)
  have HGD := hide (HR.out.1 hp0).2
  obtain ⟨P, hP⟩ : ∃ P, P = repL g f k t := ⟨_, rfl⟩
  rw [← hP] at HRP HGD hp0
  have HP := hide hP
  have HP0 := hide hp0
  have hP8 : P.length ≤ 8 := by rw [hP]; exact repL_len g f k t
  have hPp : 0 < P.length := List.length_pos_iff.2 hp0
  clear hP hp0
  go_wp2_with fail
  refine (sameL_any _ _ S4 S4 _ (HO4.out.slr lbc_len) (HW4.out.slr lbc_len) hlo' hlo').mono ?_
  rintro e w5 ⟨rfl, hb5⟩
  rw [eqB_self]
  have HX5 := hide (HX4.out.up hb5)
  have HG5 := hide (HG4.out.up hb5)
  have HO5 := hide (HO4.out.below hb5)
  have HW5 := hide (HW4.out.below hb5)
  have hb05 := hb04.trans (hb5.mono hb04.size)
  clear c0 c1 HX4 HG4 HO4 HW4 hb04 hb5
  have c0 := HX5.out.cell 0
  have c1 := HX5.out.cell 1
  have hsh : S4.length + 1 ≤ P.length := by have := HGD.out.len hPp; omega
  have n3 : decide ((S4.length : Int) ≤ (P.length : Int) - 1) = true := decide_eq_true (by omega)
  go_wp2_with fail
  refine (repairPath_any _ g f k t _ HG5.out hn).mono ?_
  rintro e w7 ⟨y7, rfl, hO7, hb7⟩
  rw [← HP.out] at hO7
  obtain ⟨A7, k7, rfl, _, _⟩ := hO7.lit
  clear hO7 c0 c1
  go_wp2
  go_ret
  exact ⟨by first | rfl | exact ret_bool n3, hb05.trans (hb7.mono hb05.size)⟩
set_option maxRecDepth 100000 in
set_option maxHeartbeats 1600000 in
theorem lawRepairAlways (v : Value) (bs : List Int) (w : World) (hv : SlR bc 1 w w.heap.size v bs) (hm : bs.length ≤ 9223372036854775807 ∧ ∀ n ∈ bs, 0 ≤ n ∧ n ≤ 255) :
    Calls Try.prog 8 #[v] w fun e w' => e = .returned (.bool true) ∧ Below w.heap.size w w' := by
  by_cases hl : 1048576 < bs.length
  · obtain ⟨A, cap, rfl, hc, hr⟩ := hv
    clear hr hm
    go_enter Try.func8, Try.ntmps8
    go_wp2
    go_ret
    exact ⟨rfl, Below.refl _ _⟩
  have hvv := hv
  obtain ⟨A, cap, rfl, hc, hr⟩ := hvv
  have HM := hide hm
  clear hm hr hc
  go_enter Try.func8, Try.ntmps8
  go_wp2_with fail
  refine (drawRS4_any _ bs _ hv HM.out).mono ?_
  rintro e w1 ⟨x1, g, f, k, t, rfl, hO1, hl15, hb1⟩
  obtain ⟨Ag, cg, rfl⟩ := hO1.lit
  obtain ⟨X, hX⟩ : ∃ X, X = w1.heap.size := ⟨_, rfl⟩
  obtain ⟨w2, hw2⟩ : ∃ w2, w2 = w1.alloc (Obj.cells #[.int .i64 g.n, .slice Ag g.ls.length cg] 25) := ⟨_, rfl⟩
  have h12 : Below w1.heap.size w1 w2 := by rw [hw2]; exact below1 _ _
  have HX2 := hide (show Blk w2 X 25 #[.int .i64 g.n, .slice Ag g.ls.length cg] from by rw [hw2, hX]; exact Blk.new _ _ _)
  have HG2 := hide (hO1.grr.up h12)
  have hb2 := hb1.trans (h12.mono hb1.size)
  have hn : g.ls.length ≤ 1048576 := by omega
  have c0 := HX2.out.cell 0
  have c1 := HX2.out.cell 1
  clear hO1 hb1 h12 HM
  go_upto_region 4 with fail
  rw [← hw2, ← hX]
  clear hw2 hX
  obtain ⟨bv, hbv⟩ : ∃ bv, tb (repL g f k t ≠ []) = bv := ⟨_, rfl⟩
  have HBV := hide hbv
  clear hbv
  go_wp2_with fail
  refine (repairStack_any _ g f k t _ HG2.out hn).mono ?_
  rintro e w3 ⟨y3, S, rfl, hO3, hR3, hb3⟩
  rw [HBV.out]
  obtain ⟨A3, k3, rfl, _, _⟩ := hO3.lit
  have HX3 := hide (HX2.out.up hb3)
  have HG3 := hide (HG2.out.up hb3)
  have HR := hide hR3
  have hb03 := hb2.trans (hb3.mono hb2.size)
  clear c0 c1 HX2 HG2 hb2
  have c0 := HX3.out.cell 0
  have c1 := HX3.out.cell 1
  go_wp2_with fail
  refine (specStack_any _ g f k t _ HG3.out hn).mono ?_
  rintro e w4 ⟨y4, S4, rfl, hO4, hR4, hb4⟩
  rw [HBV.out]
  obtain rfl : S4 = S := (hR4.uniq hR3).1
  obtain ⟨A4, k4, rfl, _, _⟩ := hO4.lit
  have hlo : S4.length ≤ 7 := hR3.len
  have hlo' : S4.length ≤ 1048576 := by omega
  have HX4 := hide (HX3.out.up hb4)
  have HG4 := hide (HG3.out.up hb4)
  have HO4 := hide (hO3.below hb4)
  have HW4 := hide hO4
  have hb04 := hb03.trans (hb4.mono hb03.size)
  clear c0 c1 HX3 HG3 hb03 hO3 hO4 hb3 hb4 hR3 hR4
  have c0 := HX4.out.cell 0
  have c1 := HX4.out.cell 1
  have n1 : (bv != bv) = false := by simp
  have n2 : (bv == bv) = true := by simp
  go_wp2_with fail
  refine (sameL_any _ _ S4 S4 _ (HO4.out.slr lbc_len) (HW4.out.slr lbc_len) hlo' hlo').mono ?_
  rintro e w5 ⟨rfl, hb5⟩
  rw [eqB_self]
  have HX5 := hide (HX4.out.up hb5)
  have HG5 := hide (HG4.out.up hb5)
  have HO5 := hide (HO4.out.below hb5)
  have HW5 := hide (HW4.out.below hb5)
  have hb05 := hb04.trans (hb5.mono hb04.size)
  clear c0 c1 HX4 HG4 HO4 HW4 hb04 hb5
  have c0 := HX5.out.cell 0
  have c1 := HX5.out.cell 1
  go_wp2_with fail
  refine (specValid_any _ g _ HG5.out hn).mono ?_
  rintro e w6 ⟨rfl, hb6⟩
  have HX6 := hide (HX5.out.up hb6)
  have HG6 := hide (HG5.out.up hb6)
  have HO6 := hide (HO5.out.below hb6)
  have HW6 := hide (HW5.out.below hb6)
  have hb06 := hb05.trans (hb6.mono hb05.size)
  clear c0 c1 HX5 HG5 HO5 HW5 hb05 hb6
  have c0 := HX6.out.cell 0
  have c1 := HX6.out.cell 1
  by_cases hV' : ¬ GV g
  · rw [tb_no hV']
    clear hV'
    go_wp2_with fail
    refine (sameL_any _ _ S4 S4 _ (HO6.out.slr lbc_len) (HW6.out.slr lbc_len) hlo' hlo').mono ?_
    rintro e wz ⟨rfl, hbz⟩
    rw [eqB_self]
    go_wp2
    go_ret
    exact ⟨rfl, hb06.trans (hbz.mono hb06.size)⟩
  have hV : GV g := Classical.not_not.1 hV'
  clear hV'
  rw [tb_yes hV]
  obtain ⟨hn1, hn2⟩ := hV.n
  have HV := hide hV
  clear hV
  by_cases hk0 : k < 0
  · go_wp2_with fail
    refine (sameL_any _ _ S4 S4 _ (HO6.out.slr lbc_len) (HW6.out.slr lbc_len) hlo' hlo').mono ?_
    rintro e wz ⟨rfl, hbz⟩
    rw [eqB_self]
    go_wp2
    go_ret
    exact ⟨rfl, hb06.trans (hbz.mono hb06.size)⟩
  by_cases hkn : (g.ls.length : Int) ≤ k
  · go_wp2_with fail
    refine (sameL_any _ _ S4 S4 _ (HO6.out.slr lbc_len) (HW6.out.slr lbc_len) hlo' hlo').mono ?_
    rintro e wz ⟨rfl, hbz⟩
    rw [eqB_self]
    go_wp2
    go_ret
    exact ⟨rfl, hb06.trans (hbz.mono hb06.size)⟩
  by_cases hf0 : f < 0
  · go_wp2_with fail
    refine (sameL_any _ _ S4 S4 _ (HO6.out.slr lbc_len) (HW6.out.slr lbc_len) hlo' hlo').mono ?_
    rintro e wz ⟨rfl, hbz⟩
    rw [eqB_self]
    go_wp2
    go_ret
    exact ⟨rfl, hb06.trans (hbz.mono hb06.size)⟩
  by_cases hfn : g.n ≤ f
  · go_wp2_with fail
    refine (sameL_any _ _ S4 S4 _ (HO6.out.slr lbc_len) (HW6.out.slr lbc_len) hlo' hlo').mono ?_
    rintro e wz ⟨rfl, hbz⟩
    rw [eqB_self]
    go_wp2
    go_ret
    exact ⟨rfl, hb06.trans (hbz.mono hb06.size)⟩
  have hK : Ok g f k := ⟨HV.out, ⟨by omega, by omega⟩, by omega, by omega⟩
  have HK := hide hK
  clear hK
  by_cases ht0 : t < 0
  · go_wp2_with fail
    refine (sameL_any _ _ S4 S4 _ (HO6.out.slr lbc_len) (HW6.out.slr lbc_len) hlo' hlo').mono ?_
    rintro e wz ⟨rfl, hbz⟩
    rw [eqB_self]
    go_wp2
    go_ret
    exact ⟨rfl, hb06.trans (hbz.mono hb06.size)⟩
  by_cases htn : g.n ≤ t
  · go_wp2_with fail
    refine (sameL_any _ _ S4 S4 _ (HO6.out.slr lbc_len) (HW6.out.slr lbc_len) hlo' hlo').mono ?_
    rintro e wz ⟨rfl, hbz⟩
    rw [eqB_self]
    go_wp2
    go_ret
    exact ⟨rfl, hb06.trans (hbz.mono hb06.size)⟩
  have HT : Hid (Nd g t) := hide ⟨by omega, by omega⟩
  have hok : GV g ∧ Ix g k := ⟨HK.out.1, HK.out.2.1⟩
  obtain ⟨p, hp⟩ : ∃ p, p = D (Wo g k.toNat) f t := ⟨_, rfl⟩
  have hbp : bv = decide (0 ≤ p) := by
    have hw := wo_gv HK.out.1 k.toNat
    have h1 : repL g f k t ≠ [] ↔ 0 ≤ p := by
      rw [repL, okL_yes ⟨HK.out, HT.out⟩, pathL_ne hw (wo_nd.2 HT.out) (wo_nd.2 HK.out.2.2), hp, D_symm hw (wo_nd.2 HK.out.2.2) (wo_nd.2 HT.out)]
    rw [← HBV.out]
    by_cases h0 : 0 ≤ p
    · rw [tb_yes (h1.2 h0), decide_eq_true h0]
    · rw [tb_no (fun h => h0 (h1.1 h)), decide_eq_false h0]
  have HBP := hide hbp
  clear hbp
  go_wp2_with fail
  refine (without_any _ g k _ HG6.out hn).mono ?_
  rintro e w7 ⟨v7, rfl, hO7, hb7⟩
  rw [woX_yes hok] at hO7
  obtain ⟨G, hG⟩ : ∃ G, G = Wo g k.toNat := ⟨_, rfl⟩
  have hgv := wo_gv HK.out.1 k.toNat
  have HF : Hid (Nd (Wo g k.toNat) f ∧ Nd (Wo g k.toNat) t) := hide ⟨wo_nd.2 HK.out.2.2, wo_nd.2 HT.out⟩
  rw [← hG] at hO7 hgv HF hp
  have HGV := hide hgv
  obtain ⟨A7, c7, rfl⟩ := hO7.lit
  have h78 := below1 w7 (Obj.cells #[.int .i64 G.n, .slice A7 G.ls.length c7] 25)
  have hb07 := hb06.trans (hb7.mono hb06.size)
  have hb08 := hb07.trans (h78.mono hb07.size)
  have HGG := hide (hO7.grr.up h78)
  have HY := hide (Blk.new w7 25 #[.int .i64 G.n, .slice A7 G.ls.length c7])
  obtain ⟨Y, hY⟩ : ∃ Y, Y = w7.heap.size := ⟨_, rfl⟩
  obtain ⟨w8, hw8⟩ : ∃ w8, w8 = w7.alloc (Obj.cells #[.int .i64 G.n, .slice A7 G.ls.length c7] 25) := ⟨_, rfl⟩
  rw [← hw8] at hb08 HGG HY
  rw [← hY] at HY
  clear c0 c1 HX6 HG6 HO6 HW6 hb06 hb7 hb07 h78 hO7 hG hok hgv
  go_upto_region 9 with fail
  rw [← hw8, ← hY]
  clear hw8 hY
  have d0 := HY.out.cell 0
  have d1 := HY.out.cell 1
  go_wp2_with fail
  refine (dist_any _ G f t _ HGG.out HGV.out HF.out.1 HF.out.2).mono ?_
  rw [← hp]
  rintro e w9 ⟨rfl, hb9⟩
  have n5 : (bv == decide (0 ≤ p)) = true := by rw [HBP.out]; simp
  clear hp d0 d1
  go_wp2
  go_ret
  exact ⟨by first | rfl | exact ret_bool n5, hb08.trans (hb9.mono hb08.size)⟩
end Go.Proofs.Ytenfdekjnelkoaa
