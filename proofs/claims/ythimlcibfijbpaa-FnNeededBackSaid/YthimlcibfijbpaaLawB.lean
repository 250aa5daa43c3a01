/- The law FnNeededBack, walked: it returns true for every code. Conditions: none. -/
import Derived.Test.YthimlcibfijbpaaDrawP
import Derived.Test.YthimlcibfijbpaaExG
import Derived.Test.YthimlcibfijbpaaLawH
namespace Go.Proofs.Ythimlcibfijbpaa
open Go.RowKit
set_option maxRecDepth 100000 in
set_option maxHeartbeats 1600000 in
theorem lawNeededBack (v : Value) (bs : List Int) (u : Value) (ms : List Int) (w : World) (hv : SlR bc 1 w w.heap.size v bs) (hm : bs.length ≤ 9223372036854775807 ∧ ∀ n ∈ bs, 0 ≤ n ∧ n ≤ 255) (hv' : SlR bc 1 w w.heap.size u ms) (_hm' : ms.length ≤ 9223372036854775807 ∧ ∀ n ∈ ms, 0 ≤ n ∧ n ≤ 255) :
    Calls Try.prog 3 #[v, u] w fun e w' => e = .returned (.bool true) ∧ Below w.heap.size w w' := by
  by_cases hl : 1048576 < bs.length
  · obtain ⟨A, cap, rfl, hc, hr⟩ := hv
    obtain ⟨A', cap', rfl, hc', hr'⟩ := hv'
    clear hr hm hr'
    go_enter Try.func3, Try.ntmps3
    go_wp2
    go_ret
    exact ⟨rfl, Below.refl _ _⟩
  by_cases hl' : 1048576 < ms.length
  · obtain ⟨A, cap, rfl, hc, hr⟩ := hv
    obtain ⟨A', cap', rfl, hc', hr'⟩ := hv'
    clear hr hm hr'
    go_enter Try.func3, Try.ntmps3
    go_wp2
    go_ret
    exact ⟨rfl, Below.refl _ _⟩
  obtain ⟨A', cap', rfl, hc', hr'⟩ := hv'
  clear hr'
  have hvv := hv
  obtain ⟨A, cap, rfl, hc, hr⟩ := hvv
  have HM := hide hm
  clear hm hr hc
  go_enter Try.func3, Try.ntmps3
  go_wp2_with fail
  refine (drawRN_any _ bs _ hv HM.out).mono ?_
  rintro e w1 ⟨x1, g, f, k, rfl, hO1, hl15, hb1⟩
  obtain ⟨Ag, cg, rfl⟩ := hO1.lit
  obtain ⟨X, hX⟩ : ∃ X, X = w1.heap.size := ⟨_, rfl⟩
  obtain ⟨w2, hw2⟩ : ∃ w2, w2 = w1.alloc (Obj.cells #[.int .i64 g.n, .slice Ag g.ls.length cg] 25) := ⟨_, rfl⟩
  have h12 : Below w1.heap.size w1 w2 := by rw [hw2]; exact below1 _ _
  have HX2 := hide (show Blk w2 X 25 #[.int .i64 g.n, .slice Ag g.ls.length cg] from by rw [hw2, hX]; exact Blk.new _ _ _)
  have HG2 := hide (hO1.grr.up h12)
  have hb2 := hb1.trans (h12.mono hb1.size)
  have hn : g.ls.length ≤ 1048576 := by omega
  have c0 := HX2.out.cell 0
  have c1 := HX2.out.cell 1
  clear hO1 hb1 h12 HM
  go_upto_region 4 with fail
  rw [← hw2, ← hX]
  clear hw2 hX
  obtain ⟨R, hR⟩ : ∃ R, needL g f k = R := ⟨_, rfl⟩
  have HR := hide hR
  have hlo : R.length ≤ 1048576 := by rw [← hR]; exact Nat.le_trans (needL_len g f k) (by decide)
  clear hR
  go_wp2_with fail
  refine (repairNeeded_any _ g f k _ HG2.out hn).mono ?_
  rintro e w3 ⟨y3, rfl, hO3, hb3⟩
  rw [HR.out] at hO3
  obtain ⟨A3, k3, rfl, _, _⟩ := hO3.lit
  have HX3 := hide (HX2.out.up hb3)
  have HG3 := hide (HG2.out.up hb3)
  have hb03 := hb2.trans (hb3.mono hb2.size)
  clear c0 c1 HX2 HG2 hb2
  have c0 := HX3.out.cell 0
  have c1 := HX3.out.cell 1
  go_wp2_with fail
  refine (specNeed_any _ g f k _ HG3.out hn).mono ?_
  rintro e w4 ⟨y4, rfl, hO4, hb4⟩
  rw [HR.out] at hO4
  obtain ⟨A4, k4, rfl, _, _⟩ := hO4.lit
  have HX4 := hide (HX3.out.up hb4)
  have HG4 := hide (HG3.out.up hb4)
  have HO4 := hide (hO3.below hb4)
  have HW4 := hide hO4
  have hb04 := hb03.trans (hb4.mono hb03.size)
  clear c0 c1 HX3 HG3 hb03 hO3 hO4 hb3 hb4
  have c0 := HX4.out.cell 0
  have c1 := HX4.out.cell 1
  go_wp2_with fail
  refine (same_any _ _ R R _ (HO4.out.slr ic_len) (HW4.out.slr ic_len) hlo hlo).mono ?_
  rintro e w5 ⟨rfl, hb5⟩
  rw [eqB_self]
  have HX5 := hide (HX4.out.up hb5)
  have HG5 := hide (HG4.out.up hb5)
  have HO5 := hide (HO4.out.below hb5)
  have HW5 := hide (HW4.out.below hb5)
  have hb05 := hb04.trans (hb5.mono hb04.size)
  clear c0 c1 HX4 HG4 HO4 HW4 hb04 hb5
  have c0 := HX5.out.cell 0
  have c1 := HX5.out.cell 1
  go_wp2_with fail
  refine (specValid_any _ g _ HG5.out hn).mono ?_
  rintro e w6 ⟨rfl, hb6⟩
  have HX6 := hide (HX5.out.up hb6)
  have HG6 := hide (HG5.out.up hb6)
  have HO6 := hide (HO5.out.below hb6)
  have HW6 := hide (HW5.out.below hb6)
  have hb06 := hb05.trans (hb6.mono hb05.size)
  clear c0 c1 HX5 HG5 HO5 HW5 hb05 hb6
  have c0 := HX6.out.cell 0
  have c1 := HX6.out.cell 1
  by_cases hV : GV g
  · rw [tb_yes hV]
    obtain ⟨hn1, hn2⟩ := hV.n
    have HV := hide hV
    clear hV
    by_cases hf0 : f < 0
    · go_wp2_with fail
      refine (same_any _ _ R R _ (HO6.out.slr ic_len) (HW6.out.slr ic_len) hlo hlo).mono ?_
      rintro e w7 ⟨rfl, hb7⟩
      rw [eqB_self]
      go_wp2
      go_ret
      exact ⟨rfl, hb06.trans (hb7.mono hb06.size)⟩
    by_cases hfn : g.n ≤ f
    · go_wp2_with fail
      refine (same_any _ _ R R _ (HO6.out.slr ic_len) (HW6.out.slr ic_len) hlo hlo).mono ?_
      rintro e w7 ⟨rfl, hb7⟩
      rw [eqB_self]
      go_wp2
      go_ret
      exact ⟨rfl, hb06.trans (hb7.mono hb06.size)⟩
    have e0 : (g.n == 0) = false := by rw [beq_eq_false_iff_ne]; omega
    go_upto_region 9 with fail
    obtain ⟨m, hme⟩ : ∃ m, m = (ms.length : Int) % g.n := ⟨_, rfl⟩
    have hmd : Nd g m := by rw [hme]; exact ⟨Int.emod_nonneg _ (by omega), Int.emod_lt_of_pos _ (by omega)⟩
    rw [← hme]
    clear hme
    obtain ⟨L, hL⟩ : ∃ L, needL g m k = L := ⟨_, rfl⟩
    have HL := hide hL
    have hLl : L.length ≤ 1048576 := by rw [← hL]; exact Nat.le_trans (needL_len g m k) (by decide)
    have hfd : Nd g f := ⟨by omega, by omega⟩
    have HEQ : Hid ((tb (m ∈ R) == tb (f ∈ L)) = true) := hide (by
      have h : m ∈ R ↔ f ∈ L := by
        rw [← HR.out, ← hL]
        unfold needL
        by_cases hI : Ix g k
        · have h1 := us_comm HV.out (List.mem_of_getElem? (lk_at hI)) hfd hmd
          rw [okL_yes ⟨HV.out, hI, hfd⟩, okL_yes ⟨HV.out, hI, hmd⟩, selTo_mem, selTo_mem]
          have h2 := hmd.1
          have h3 := hmd.2
          constructor
          · rintro ⟨_, h⟩; exact ⟨⟨by omega, by omega⟩, h1.1 h⟩
          · rintro ⟨_, h⟩; exact ⟨⟨by omega, by omega⟩, h1.2 h⟩
        · rw [okL_no (fun h => hI h.2.1), okL_no (fun h => hI h.2.1)]
          simp
      rw [tb_iff h]; simp)
    clear hL
    have hd6 := (Below.refl w6.heap.size w6).drew
    have HXd := hide (HX6.out.up hd6)
    have HGd := hide (HG6.out.up hd6)
    have HOd := hide (HO6.out.below hd6)
    have hb0d := hb06.trans (hd6.mono hb06.size)
    clear hd6
    go_region_held3 (fun X' => X'.cell? ⟨X, 0, none⟩ = some (.int .i64 g.n) ∧ X'.cell? ⟨X, 1, none⟩ = some (.slice Ag g.ls.length cg)) (first | go_keep | exact ⟨HX7.out.cell 0, HX7.out.cell 1⟩ | exact ⟨HX8.out.cell 0, HX8.out.cell 1⟩ | exact ⟨HX9.out.cell 0, HX9.out.cell 1⟩ | fail)
      (first
        | (go_at_call 18; refine (hasInt_any _ R _ _ ?_ hlo).mono ?_
           · exact HOd.out.slr ic_len
           rintro e w7 ⟨rfl, hb7⟩
           have HX7 := hide (HXd.out.up hb7)
           have HG7 := hide (HGd.out.up hb7)
           have hb07 := hb0d.trans (hb7.mono hb0d.size))
        | (go_at_call 14; refine (repairNeeded_any _ g m k _ HG7.out hn).mono ?_
           rintro e w8 ⟨y8, rfl, hO8, hb8⟩
           rw [HL.out] at hO8
           have HX8 := hide (HX7.out.up hb8)
           have hb08 := hb07.trans (hb8.mono hb07.size))
        | (go_at_call 18; refine (hasInt_any _ L _ _ ?_ hLl).mono ?_
           · exact hO8.slr ic_len
           rintro e w9 ⟨rfl, hb9⟩
           have HX9 := hide (HX8.out.up hb9)
           have hb09 := hb08.trans (hb9.mono hb08.size))
        | fail)
    all_goals
      go_wp2
      go_ret
      exact ⟨ret_bool HEQ.out, hb09⟩
  · rw [tb_no hV]
    clear hV
    go_wp2_with fail
    refine (same_any _ _ R R _ (HO6.out.slr ic_len) (HW6.out.slr ic_len) hlo hlo).mono ?_
    rintro e w7 ⟨rfl, hb7⟩
    rw [eqB_self]
    go_wp2
    go_ret
    exact ⟨rfl, hb06.trans (hb7.mono hb06.size)⟩
end Go.Proofs.Ythimlcibfijbpaa
