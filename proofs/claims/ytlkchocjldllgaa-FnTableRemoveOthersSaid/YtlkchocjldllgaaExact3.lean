/- The laws FnExactTableTurn, walked: it returns true for every table and two numbers. Conditions: none. -/
import Derived.Test.YtlkchocjldllgaaExact2
import Derived.Test.YtlkchocjldllgaaTurn
import Derived.Test.YtlkchocjldllgaaTabG
import Derived.Deep.RegionHeld3
namespace Go.Proofs.Ytlkchocjldllgaa
open Go.RowKit

theorem turnT_len (t : Tab) (h n : Int) : (turnT t h n).1.routes.length ≤ t.routes.length ∧ (turnT t h n).1.hops.length ≤ t.hops.length := by
  unfold turnT
  split
  · simp
  · simp
theorem specTurn_u (v : Value) (t : Tab) (h n : Int) (u : Tab) (k : Int) (w : World) (hT : turnT t h n = (u, k)) (hv : TbR w w.heap.size v t) (hn : t.routes.length ≤ 1048576 ∧ t.hops.length ≤ 1048576) :
    Calls Try.prog 36 #[v, .int .i64 h, .int .i64 n] w fun e w' => ∃ v', e = .returned (.tuple #[v', .int .i64 k]) ∧ OwnT w' w.heap.size v' u ∧ Below w.heap.size w w' := by
  have h1 := specTurn_any v t h n w hv hn
  rw [hT] at h1
  exact h1
theorem turn_u (v : Value) (t : Tab) (h n : Int) (u : Tab) (k : Int) (w : World) (hT : turnT t h n = (u, k)) (hv : TbR w w.heap.size v t) (hn : t.routes.length ≤ 1048576 ∧ t.hops.length ≤ 1048576) :
    Calls Try.prog 35 #[v, .int .i64 h, .int .i64 n] w fun e w' => ∃ v', e = .returned (.tuple #[v', .int .i64 k]) ∧ OwnT w' w.heap.size v' u ∧ Below w.heap.size w w' := by
  have h1 := turn_any v t h n w hv hn
  rw [hT] at h1
  exact h1
set_option maxRecDepth 100000 in
set_option maxHeartbeats 1600000 in
theorem lawExactTableTurn (v : Value) (t : Tab) (h n : Int) (w : World) (hv : TbR w w.heap.size v t) (hm : t.routes.length ≤ 9223372036854775807 ∧ t.hops.length ≤ 9223372036854775807) :
    Calls Try.prog 11 #[v, .int .i64 h, .int .i64 n] w fun e w' => e = .returned (.bool true) ∧ Below w.heap.size w w' := by
  obtain ⟨u, k, hT⟩ : ∃ u k, turnT t h n = (u, k) := ⟨_, _, rfl⟩
  have hul := turnT_len t h n
  rw [hT] at hul
  have HT := hide hT
  clear hT
  have hvv := hv
  obtain ⟨v1, v2, rfl, h1, h2⟩ := hv
  clear h1 h2
  have hb00 := below1 w (.cells #[v1, v2] 25)
  have HB0 := hide (Blk.new w 25 #[v1, v2])
  by_cases hn : tabSize t ≤ 1048576
  · have hn2 : t.routes.length ≤ 1048576 ∧ t.hops.length ≤ 1048576 := by unfold tabSize at hn; omega
    have hsz : (0 : Int) ≤ 1048576 - t.routes.length - t.hops.length := by unfold tabSize at hn; omega
    go_enter Try.func11, Try.ntmps11
    go_wp2_with fail
    refine (szT_any _ t _ (hvv.up hb00) hn).mono ?_
    rintro e w1 ⟨rfl, hb1⟩
    have hb01 := hb00.trans (hb1.mono hb00.size)
    have HB1 := hide (HB0.out.up hb1)
    have cA := HB1.out.cell 0
    have cB := HB1.out.cell 1
    clear HB0
    go_wp2_with fail
    refine (toT_any _ t _ (hvv.up hb01) hn2).mono ?_
    rintro e w2 ⟨x, rfl, hO1, hb2⟩
    clear cA cB
    have hb02 := hb01.trans (hb2.mono hb01.size)
    have HB2 := hide (HB1.out.up hb2)
    have cA := HB2.out.cell 0
    have cB := HB2.out.cell 1
    clear HB1
    have hlo : u.routes.length ≤ 1048576 ∧ u.hops.length ≤ 1048576 := ⟨Nat.le_trans hul.1 hn2.1, Nat.le_trans hul.2 hn2.2⟩
    go_wp2_with fail
    refine (specTurn_u x t h n u k _ HT.out hO1.tbr hn2).mono ?_
    rintro e w3 ⟨y, rfl, hOy, hb3⟩
    clear cA cB
    have hb03 := hb02.trans (hb3.mono hb02.size)
    have HB3 := hide (HB2.out.up hb3)
    have cA := HB3.out.cell 0
    have cB := HB3.out.cell 1
    clear HB2
    obtain ⟨A1, n1, k1, A2, n2, k2, rfl⟩ := hOy.lit
    have hb4 := below1 w3 (.cells #[.slice A1 n1 k1, .slice A2 n2 k2] 30)
    have HY4 := hide (Blk.new w3 30 #[.slice A1 n1 k1, .slice A2 n2 k2])
    clear cA cB
    have hb04 := hb03.trans (hb4.mono hb03.size)
    have HB4 := hide (HB3.out.up hb4)
    have cA := HB4.out.cell 0
    have cB := HB4.out.cell 1
    clear HB3
    go_wp2_with fail
    refine (toT_any _ t _ (hvv.up hb04) hn2).mono ?_
    rintro e w5 ⟨x', rfl, hOx, hb5⟩
    clear cA cB
    have hb05 := hb04.trans (hb5.mono hb04.size)
    have HB5 := hide (HB4.out.up hb5)
    have cA := HB5.out.cell 0
    have cB := HB5.out.cell 1
    clear HB4
    have HY5 := hide (HY4.out.up hb5)
    obtain ⟨A3, n3, k3, A4, n4, k4, rfl⟩ := hOx.lit
    have hb6 := below1 w5 (.cells #[.slice A3 n3 k3, .slice A4 n4 k4] 30)
    have HX6 := hide (Blk.new w5 30 #[.slice A3 n3 k3, .slice A4 n4 k4])
    clear cA cB
    have hb06 := hb05.trans (hb6.mono hb05.size)
    have HB6 := hide (HB5.out.up hb6)
    have cA := HB6.out.cell 0
    have cB := HB6.out.cell 1
    clear HB5
    have HY6 := hide (HY5.out.up hb6)
    have cX := HX6.out.cell 0
    have cY := HX6.out.cell 1
    go_wp2_with fail
    refine (turn_u _ t h n u k _ HT.out (hOx.tbr.up hb6) hn2).mono ?_
    rintro e w7 ⟨g, rfl, hOg, hb7⟩
    clear cA cB cX cY
    have hb07 := hb06.trans (hb7.mono hb06.size)
    have HB7 := hide (HB6.out.up hb7)
    have cA := HB7.out.cell 0
    have cB := HB7.out.cell 1
    clear HB6
    have HY7 := hide (HY6.out.up hb7)
    have HX7 := hide (HX6.out.up hb7)
    obtain ⟨A5, n5, k5, A6, n6, k6, rfl⟩ := hOg.lit
    have hb8 := below1 w7 (.cells #[.slice A5 n5 k5, .slice A6 n6 k6] 30)
    have s45 : w3.heap.size ≤ (w3.alloc (.cells #[.slice A1 n1 k1, .slice A2 n2 k2] 30)).heap.size := hb4.size
    have s56 : w5.heap.size ≤ (w5.alloc (.cells #[.slice A3 n3 k3, .slice A4 n4 k4] 30)).heap.size := hb6.size
    have s35 := Nat.le_trans s45 hb5.size
    have s36 := Nat.le_trans s35 s56
    have X8 : ExX w (w7.alloc (.cells #[.slice A5 n5 k5, .slice A6 n6 k6] 30)) w.heap.size w3.heap.size w5.heap.size w7.heap.size #[v1, v2] #[.slice A1 n1 k1, .slice A2 n2 k2] #[.slice A3 n3 k3, .slice A4 n4 k4] #[.slice A5 n5 k5, .slice A6 n6 k6] (.agg #[.slice A1 n1 k1, .slice A2 n2 k2]) (.agg #[.slice A5 n5 k5, .slice A6 n6 k6]) (.agg #[.slice A3 n3 k3, .slice A4 n4 k4]) u u t :=
      ⟨⟨hb07.trans (hb8.mono hb07.size), HB7.out.up hb8, HY7.out.up hb8, Blk.new w7 _ _,
        (((((hOy.below hb4).below hb5).below hb6).below hb7).below hb8).low hb02.size, (hOg.below hb8).low hb06.size, (hOy.dis hOg s36).1⟩,
       HX7.out.up hb8, (((hOx.below hb6).below hb7).below hb8).low hb04.size, (hOy.dis hOx s45).1, (hOx.dis hOg s56).2⟩
    clear hOy hOx hOg HY4 HY5 HY6 HY7 HX6 HX7 HB7 hb01 hb02 hb03 hb04 hb05 hb06 hb07 hb00 hb1 hb2 hb3 hb4 hb5 hb6 hb7 hb8 s45 s56 s35 s36 cA cB hO1
    have hne : (k != k) = false := by simp
    obtain ⟨b8, hb8⟩ : ∃ b, b = w3.heap.size := ⟨_, rfl⟩
    obtain ⟨b10, hb10⟩ : ∃ b, b = w5.heap.size := ⟨_, rfl⟩
    obtain ⟨b11, hb11⟩ : ∃ b, b = w7.heap.size := ⟨_, rfl⟩
    rw [← hb8, ← hb10, ← hb11] at X8
    have X8 := hide X8
    have cA := X8.out.e.t3.cell 0
    have cB := X8.out.e.t3.cell 1
    have cC := X8.out.e.t8.cell 0
    have cD := X8.out.e.t8.cell 1
    have cE := X8.out.e.t11.cell 0
    have cF := X8.out.e.t11.cell 1
    rw [hb8] at cC cD
    rw [hb11] at cE cF
    go_wp2_with fail
    refine (eqT_any _ _ u u _ X8.out.e.og.tbr X8.out.e.oy.tbr hlo hlo).mono ?_
    rintro e w9 ⟨rfl, hb9⟩
    rw [eqB_self]
    have X9 := hide (X8.out.below hb9)
    clear X8 hb9
    clear cA cB cC cD cE cF
    have cA := X9.out.e.t3.cell 0
    have cB := X9.out.e.t3.cell 1
    have cC := X9.out.e.t8.cell 0
    have cD := X9.out.e.t8.cell 1
    have cE := X9.out.e.t11.cell 0
    have cF := X9.out.e.t11.cell 1
    have cX := X9.out.t10.cell 0
    have cY := X9.out.t10.cell 1
    rw [hb8] at cC cD
    rw [hb10] at cX cY
    rw [hb11] at cE cF
    go_wp2_with fail
    have hv9 := hvv.up X9.out.e.bw.drew
    go_region_held3 (fun w' => w'.cell? ⟨w.heap.size, 0, none⟩ = some v1 ∧ w'.cell? ⟨w.heap.size, 1, none⟩ = some v2 ∧ w'.cell? ⟨w5.heap.size, 0, none⟩ = some (.slice A3 n3 k3) ∧ w'.cell? ⟨w5.heap.size, 1, none⟩ = some (.slice A4 n4 k4)) (first | go_keep | exact ⟨cA7, cB7, cX7, cY7⟩ | fail) (first | (go_at_call 24; refine (toT_any _ t _ hv9 hn2).mono ?_; rintro e w10 ⟨z, rfl, hO10, hb10'⟩; have cA7 := (hb10'.cell (World.block_lt_of_cell? w9.drew _ cA)).trans cA; have cB7 := (hb10'.cell (World.block_lt_of_cell? w9.drew _ cB)).trans cB; have cX7 := (hb10'.cell (World.block_lt_of_cell? w9.drew _ cX)).trans cX; have cY7 := (hb10'.cell (World.block_lt_of_cell? w9.drew _ cY)).trans cY) | (go_at_call 26; refine (eqT_any _ z t t _ ((X9.out.drew.below hb10').ox.tbr) hO10.tbr hn2 hn2).mono ?_; rintro e w11 ⟨rfl, hb11'⟩; rw [eqB_self]; have cA7 := (hb11'.cell (World.block_lt_of_cell? w10 _ cA7)).trans cA7; have cB7 := (hb11'.cell (World.block_lt_of_cell? w10 _ cB7)).trans cB7; have cX7 := (hb11'.cell (World.block_lt_of_cell? w10 _ cX7)).trans cX7; have cY7 := (hb11'.cell (World.block_lt_of_cell? w10 _ cY7)).trans cY7) | fail)
    have X11 := hide ((X9.out.drew.below hb10').below hb11')
    clear X9 hb10' hb11' hv9 hO10 cX cY cA7 cB7 cX7 cY7
    clear cA cB cC cD cE cF
    have cX := X11.out.t10.cell 0
    have cY := X11.out.t10.cell 1
    rw [hb10] at cX cY
    obtain ⟨K, hK⟩ : ∃ K : Int, K = 1 + 3 * (t.routes.length : Int) + (t.hops.length : Int) := ⟨_, rfl⟩
    have hK0 : 0 ≤ K := by omega
    have hK1 : K ≤ 9223372036854775807 := by omega
    go_wp2_with fail
    refine (markT_k _ t _ K _ X11.out.ox hn2 hK).mono ?_
    rintro e w12 ⟨rfl, hom, hm12, hb12⟩
    have E12 := hide (X11.out.mark hm12 hb12)
    clear hom hm12 hb12 X11 cX cY hK
    have cA := E12.out.t3.cell 0
    have cB := E12.out.t3.cell 1
    have cC := E12.out.t8.cell 0
    have cD := E12.out.t8.cell 1
    have cE := E12.out.t11.cell 0
    have cF := E12.out.t11.cell 1
    rw [hb8] at cC cD
    rw [hb11] at cE cF
    go_wp2_with fail
    refine (eqT_any _ _ u u _ E12.out.og.tbr E12.out.oy.tbr hlo hlo).mono ?_
    rintro e w13 ⟨rfl, hb13⟩
    rw [eqB_self]
    have E13 := hide (E12.out.below hb13)
    clear E12 hb13
    clear cA cB cC cD cE cF
    have cA := E13.out.t3.cell 0
    have cB := E13.out.t3.cell 1
    have cC := E13.out.t8.cell 0
    have cD := E13.out.t8.cell 1
    have cE := E13.out.t11.cell 0
    have cF := E13.out.t11.cell 1
    rw [hb8] at cC cD
    rw [hb11] at cE cF
    obtain ⟨M, hM⟩ : ∃ M : Int, M = 1 + 3 * (u.routes.length : Int) + (u.hops.length : Int) := ⟨_, rfl⟩
    have hM0 : 0 ≤ M := by omega
    have hM1 : M ≤ 9223372036854775807 := by omega
    have hMM : (M != M) = false := by simp
    go_wp2_with fail
    refine (markT_k _ u _ M _ E13.out.og hlo hM).mono ?_
    rintro e w14 ⟨rfl, hog, hm14, hb14⟩
    have E14 := hide (E13.out.markG hog hm14 (hb14 E13.out.bw.size))
    clear hog hm14 hb14 E13
    clear cA cB cC cD cE cF
    have cA := E14.out.t3.cell 0
    have cB := E14.out.t3.cell 1
    have cC := E14.out.t8.cell 0
    have cD := E14.out.t8.cell 1
    have cE := E14.out.t11.cell 0
    have cF := E14.out.t11.cell 1
    rw [hb8] at cC cD
    rw [hb11] at cE cF
    go_wp2_with fail
    refine (heldT_k _ u M _ E14.out.og.tbr hlo hM).mono ?_
    rintro e w15 ⟨rfl, hb15⟩
    have E15 := hide (E14.out.below hb15)
    clear E14 hb15
    clear cA cB cC cD cE cF
    have cA := E15.out.t3.cell 0
    have cB := E15.out.t3.cell 1
    have cC := E15.out.t8.cell 0
    have cD := E15.out.t8.cell 1
    have cE := E15.out.t11.cell 0
    have cF := E15.out.t11.cell 1
    rw [hb8] at cC cD
    rw [hb11] at cE cF
    go_wp2_with fail
    refine (toT_any _ t _ (hvv.up E15.out.bw) hn2).mono ?_
    rintro e w16 ⟨x16, rfl, hO16, hb16⟩
    have E16 := hide (E15.out.below hb16)
    clear E15 hb16
    clear cA cB cC cD cE cF
    have cA := E16.out.t3.cell 0
    have cB := E16.out.t3.cell 1
    have cC := E16.out.t8.cell 0
    have cD := E16.out.t8.cell 1
    have cE := E16.out.t11.cell 0
    have cF := E16.out.t11.cell 1
    rw [hb8] at cC cD
    rw [hb11] at cE cF
    go_wp2_with fail
    refine (turn_u _ t h n u k _ HT.out hO16.tbr hn2).mono ?_
    rintro e w17 ⟨g17, rfl, hO17, hb17⟩
    obtain ⟨A7, n7, k7, A8, n8, k8, rfl⟩ := hO17.lit
    have hb18 := below1 w17 (.cells #[.slice A7 n7 k7, .slice A8 n8 k8] 30)
    have E18 := hide ((E16.out.below hb17).below hb18)
    have hO18 := hO17.below hb18
    clear E16 hO16 hO17 hb17 hb18
    clear cA cB cC cD cE cF
    have cA := E18.out.t3.cell 0
    have cB := E18.out.t3.cell 1
    have cC := E18.out.t8.cell 0
    have cD := E18.out.t8.cell 1
    have cE := E18.out.t11.cell 0
    have cF := E18.out.t11.cell 1
    rw [hb8] at cC cD
    rw [hb11] at cE cF
    go_wp2_with fail
    refine (eqT_any _ _ u u _ hO18.tbr E18.out.oy.tbr hlo hlo).mono ?_
    rintro e w19 ⟨rfl, hb19⟩
    rw [eqB_self]
    have E19 := hide (E18.out.below hb19)
    clear E18 hb19 hO18
    clear cA cB cC cD cE cF
    have cA := E19.out.t3.cell 0
    have cB := E19.out.t3.cell 1
    have cC := E19.out.t8.cell 0
    have cD := E19.out.t8.cell 1
    have cE := E19.out.t11.cell 0
    have cF := E19.out.t11.cell 1
    rw [hb11] at cE cF
    clear cC cD
    go_wp2_with fail
    refine (heldT_k _ u M _ E19.out.og.tbr hlo hM).mono ?_
    rintro e w20 ⟨rfl, hb20⟩
    go_wp2
    go_ret
    exact ⟨rfl, E19.out.bw.trans (hb20.mono E19.out.bw.size)⟩
  · go_enter Try.func11, Try.ntmps11
    go_wp2_with fail
    refine (szT_over _ t _ (hvv.up hb00) (by omega) hm).mono ?_
    rintro e w1 ⟨rfl, hb1⟩
    go_wp2
    go_ret
    exact ⟨rfl, hb00.trans (hb1.mono hb00.size)⟩
end Go.Proofs.Ytlkchocjldllgaa
