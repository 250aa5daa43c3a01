/- The law FnExactRepairStack, walked: it returns true for every graph and three numbers. Conditions: none. -/
import Derived.Test.YtenfdekjnelkoaaExL
import Derived.Test.YtenfdekjnelkoaaStackS
namespace Go.Proofs.Ytenfdekjnelkoaa
open Go.RowKit
set_option maxRecDepth 100000 in
set_option maxHeartbeats 1600000 in
theorem lawExactRepairStack (v : Value) (g : Gr) (f k t : Int) (w : World) (hv : GrR w w.heap.size v g) (hm : g.ls.length ≤ 9223372036854775807) :
    Calls Try.prog 10 #[v, .int .i64 f, .int .i64 k, .int .i64 t] w fun e w' => e = .returned (.bool true) ∧ Below w.heap.size w w' := by
  obtain ⟨bv, hbv⟩ : ∃ bv, tb (repL g f k t ≠ []) = bv := ⟨_, rfl⟩
  have HBV := hide hbv
  have n1 : (bv != bv) = false := by simp
  clear hbv
  have hvv := hv
  obtain ⟨v2, rfl, h2⟩ := hv
  clear h2
  have hb00 := below1 w (.cells #[.int .i64 g.n, v2] 40)
  have HB0 := hide (Blk.new w 40 #[.int .i64 g.n, v2])
  by_cases hn : g.ls.length ≤ 1048576
  · have hsz : (0 : Int) ≤ 1048576 - g.ls.length := by omega
    go_enter Try.func10, Try.ntmps10
    go_wp2_with fail
    refine (szG_any _ g _ (hvv.up hb00) hn).mono ?_
    rintro e w1 ⟨rfl, hb1⟩
    have hb01 := hb00.trans (hb1.mono hb00.size)
    have HB1 := hide (HB0.out.up hb1)
    have cA := HB1.out.cell 0
    have cB := HB1.out.cell 1
    clear HB0
    go_wp2_with fail
    refine (toG_any _ g _ (hvv.up hb01) hn).mono ?_
    rintro e w2 ⟨x, rfl, hO1, hb2⟩
    clear cA cB
    have hb02 := hb01.trans (hb2.mono hb01.size)
    have HB2 := hide (HB1.out.up hb2)
    have cA := HB2.out.cell 0
    have cB := HB2.out.cell 1
    clear HB1
    go_wp2_with fail
    refine (specStack_any x g f k t _ hO1.grr hn).mono ?_
    rintro e w3 ⟨y, R, rfl, hOy, hRy, hb3⟩
    rw [HBV.out]
    have hlo : R.length ≤ 1048576 := by have := hRy.len; omega
    clear cA cB
    have hb03 := hb02.trans (hb3.mono hb02.size)
    have HB3 := hide (HB2.out.up hb3)
    have cA := HB3.out.cell 0
    have cB := HB3.out.cell 1
    clear HB2
    obtain ⟨A1, k1, rfl, _, _⟩ := hOy.lit
    go_wp2_with fail
    refine (toG_any _ g _ (hvv.up hb03) hn).mono ?_
    rintro e w5 ⟨x', rfl, hOx, hb5⟩
    clear cA cB
    have hb4 := hb3
    have hb04 := hb03
    have HB4 := HB3
    clear HB3
    have hb05 := hb04.trans (hb5.mono hb04.size)
    have HB5 := hide (HB4.out.up hb5)
    have cA := HB5.out.cell 0
    have cB := HB5.out.cell 1
    clear HB4
    obtain ⟨A3, k3, rfl⟩ := hOx.lit
    have hb6 := below1 w5 (.cells #[.int .i64 g.n, .slice A3 g.ls.length k3] 25)
    have HX6 := hide (Blk.new w5 25 #[.int .i64 g.n, .slice A3 g.ls.length k3])
    clear cA cB
    have hb06 := hb05.trans (hb6.mono hb05.size)
    have HB6 := hide (HB5.out.up hb6)
    have cA := HB6.out.cell 0
    have cB := HB6.out.cell 1
    clear HB5
    have cX := HX6.out.cell 0
    have cY := HX6.out.cell 1
    go_wp2_with fail
    refine (repairStack_any _ g f k t _ (hOx.grr.up hb6) hn).mono ?_
    rintro e w7 ⟨gv, R7, rfl, hOg, hRg, hb7⟩
    rw [HBV.out]
    clear cA cB cX cY
    have hb07 := hb06.trans (hb7.mono hb06.size)
    have HB7 := hide (HB6.out.up hb7)
    have cA := HB7.out.cell 0
    have cB := HB7.out.cell 1
    clear HB6
    have HX7 := hide (HX6.out.up hb7)
    have hR7 : R7 = R := (hRg.uniq hRy).1
    rw [hR7] at hOg
    have HRY := hide hRy
    clear hR7 hRg hRy
    obtain ⟨A5, k5, rfl, _, _⟩ := hOg.lit
    have s56 : w5.heap.size ≤ (w5.alloc (.cells #[.int .i64 g.n, .slice A3 g.ls.length k3] 25)).heap.size := hb6.size
    have s36 := Nat.le_trans hb5.size s56
    have X7 : ExLX w w7 w.heap.size w5.heap.size #[.int .i64 g.n, v2] #[.int .i64 g.n, .slice A3 g.ls.length k3] (.slice A1 R.length k1) (.slice A5 R.length k5) R R (.agg #[.int .i64 g.n, .slice A3 g.ls.length k3]) g :=
      ⟨⟨hb07, HB7.out, (((hOy.below hb5).below hb6).below hb7).low hb02.size, hOg.low hb06.size, fun q hq hq' => by
        have h1 := (World.ownsRow.lt hOy q hq).2
        have h2 := (World.ownsRow.lt hOg q hq').1
        omega⟩, HX7.out, ((hOx.below hb6).below hb7).low hb04.size⟩
    clear hOy hOx hOg HX6 HX7 HB7 hb01 hb02 hb03 hb04 hb05 hb06 hb07 hb00 hb1 hb2 hb3 hb4 hb5 hb6 hb7 s56 s36 cA cB hO1
    obtain ⟨bZ, hbZ⟩ : ∃ b, b = w5.heap.size := ⟨_, rfl⟩
    rw [← hbZ] at X7
    have X7 := hide X7
    have cA := X7.out.e.t3.cell 0
    have cB := X7.out.e.t3.cell 1
    go_wp2_with fail
    refine (eqL_any _ _ R R _ (X7.out.e.og.slr lbc_len) (X7.out.e.oy.slr lbc_len) hlo hlo).mono ?_
    rintro e w9 ⟨rfl, hb9⟩
    rw [eqB_self]
    have X9 := hide (X7.out.below hb9)
    clear X7 hb9 cA cB
    have cA := X9.out.e.t3.cell 0
    have cB := X9.out.e.t3.cell 1
    have cX := X9.out.tz.cell 0
    have cY := X9.out.tz.cell 1
    rw [hbZ] at cX cY
    go_wp2_with fail
    have hv9 := hvv.up X9.out.e.bw.drew
    go_region_held3 (fun w' => w'.cell? ⟨w.heap.size, 0, none⟩ = some (.int .i64 g.n) ∧ w'.cell? ⟨w.heap.size, 1, none⟩ = some v2 ∧ w'.cell? ⟨w5.heap.size, 0, none⟩ = some (.int .i64 g.n) ∧ w'.cell? ⟨w5.heap.size, 1, none⟩ = some (.slice A3 g.ls.length k3)) (first | go_keep | exact ⟨cA7, cB7, cX7, cY7⟩ | fail) (first | (go_at_call 24; refine (toG_any _ g _ hv9 hn).mono ?_; rintro e w10 ⟨z, rfl, hO10, hb10'⟩; have cA7 := (hb10'.cell (World.block_lt_of_cell? w9.drew _ cA)).trans cA; have cB7 := (hb10'.cell (World.block_lt_of_cell? w9.drew _ cB)).trans cB; have cX7 := (hb10'.cell (World.block_lt_of_cell? w9.drew _ cX)).trans cX; have cY7 := (hb10'.cell (World.block_lt_of_cell? w9.drew _ cY)).trans cY) | (go_at_call 27; refine (eqG_any _ z g g _ ((X9.out.drew.below hb10').ox.grr) hO10.grr hn hn).mono ?_; rintro e w11 ⟨rfl, hb11'⟩; rw [eqB_self]; have cA7 := (hb11'.cell (World.block_lt_of_cell? w10 _ cA7)).trans cA7; have cB7 := (hb11'.cell (World.block_lt_of_cell? w10 _ cB7)).trans cB7; have cX7 := (hb11'.cell (World.block_lt_of_cell? w10 _ cX7)).trans cX7; have cY7 := (hb11'.cell (World.block_lt_of_cell? w10 _ cY7)).trans cY7) | fail)
    have X11 := hide ((X9.out.drew.below hb10').below hb11')
    clear X9 hb10' hb11' hv9 hO10 cX cY cA7 cB7 cX7 cY7 cA cB
    have cX := X11.out.tz.cell 0
    have cY := X11.out.tz.cell 1
    rw [hbZ] at cX cY
    obtain ⟨K, hK⟩ : ∃ K : Int, K = 1 + 3 * (g.ls.length : Int) := ⟨_, rfl⟩
    have hK0 : 0 ≤ K := by omega
    go_wp2_with fail
    refine (markG_k _ g _ K _ X11.out.ox hn hK).mono ?_
    rintro e w12 ⟨rfl, hom, hm12, hb12⟩
    have E12 := hide (X11.out.mark hm12 hb12)
    clear hom hm12 hb12 X11 cX cY hK
    have cA := E12.out.t3.cell 0
    have cB := E12.out.t3.cell 1
    go_wp2_with fail
    refine (eqL_any _ _ R R _ (E12.out.og.slr lbc_len) (E12.out.oy.slr lbc_len) hlo hlo).mono ?_
    rintro e w13 ⟨rfl, hb13⟩
    rw [eqB_self]
    have E13 := hide (E12.out.below hb13)
    clear E12 hb13 cA cB
    have cA := E13.out.t3.cell 0
    have cB := E13.out.t3.cell 1
    obtain ⟨M, hM⟩ : ∃ M : Int, M = 1 + 2 * (R.length : Int) := ⟨_, rfl⟩
    have hM0 : 0 ≤ M := by omega
    have hMM : (M != M) = false := by simp
    go_wp2_with fail
    refine (markL_k _ R M _ _ E13.out.og hlo hM).mono ?_
    rintro e w14 ⟨rfl, hog, hm14⟩
    have E14 := hide (E13.out.mark hog hm14)
    clear hog hm14 E13 cA cB
    have cA := E14.out.t3.cell 0
    have cB := E14.out.t3.cell 1
    go_wp2_with fail
    refine (heldL_k _ R.length M _ (E14.out.og.slr lbc_len) hlo hM).mono ?_
    rintro e w15 ⟨rfl, hw15⟩
    subst hw15
    go_wp2_with fail
    refine (toG_any _ g _ (hvv.up E14.out.bw) hn).mono ?_
    rintro e w16 ⟨x16, rfl, hO16, hb16⟩
    have E16 := hide (E14.out.below hb16)
    clear E14 hb16 cA cB
    have cA := E16.out.t3.cell 0
    have cB := E16.out.t3.cell 1
    go_wp2_with fail
    refine (repairStack_any _ g f k t _ hO16.grr hn).mono ?_
    rintro e w17 ⟨g17, R17, rfl, hO17, hR17, hb17⟩
    rw [HBV.out]
    rw [(hR17.uniq HRY.out).1] at hO17
    obtain ⟨A7, k7, rfl, _, _⟩ := hO17.lit
    have E17 := hide (E16.out.below hb17)
    clear E16 hO16 hb17 cA cB
    have cA := E17.out.t3.cell 0
    have cB := E17.out.t3.cell 1
    go_wp2_with fail
    refine (eqL_any _ _ R R _ (hO17.slr lbc_len) (E17.out.oy.slr lbc_len) hlo hlo).mono ?_
    rintro e w19 ⟨rfl, hb19⟩
    rw [eqB_self]
    have E19 := hide (E17.out.below hb19)
    clear E17 hb19 hO17 cA cB
    go_wp2_with fail
    refine (heldL_k _ R.length M _ (E19.out.og.slr lbc_len) hlo hM).mono ?_
    rintro e w20 ⟨rfl, hw20⟩
    subst hw20
    go_wp2
    go_ret
    exact ⟨rfl, E19.out.bw⟩
  · go_enter Try.func10, Try.ntmps10
    go_wp2_with fail
    refine (szG_over _ g _ (hvv.up hb00) (by omega) hm).mono ?_
    rintro e w1 ⟨rfl, hb1⟩
    go_wp2
    go_ret
    exact ⟨rfl, hb00.trans (hb1.mono hb00.size)⟩
end Go.Proofs.Ytenfdekjnelkoaa
