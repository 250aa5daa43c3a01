/- The laws FnMixedNew, FnMixedOld, FnMixedUnused, FnLoopNodes, FnArrivesSome and FnArrivesNoLoop, walked: they return true for every code. Conditions: none. -/
import Derived.Test.YtbhkjeicogjfbaaDrawM
namespace Go.Proofs.Ytbhkjeicogjfbaa
open Go.RowKit
theorem arrX_len (g : Gr) (k y : Int) (ch : List Int) : (arrX g k y ch).length ≤ 8 := by
  by_cases h : Ok g y k
  · rw [arrX, okL_yes h]
    exact selTo_le _ _ (by have := h.1.n; omega)
  · rw [arrX, okL_no h]; simp
theorem loopX_len (g : Gr) (k y : Int) (ch : List Int) : (loopX g k y ch).length ≤ 8 := by
  by_cases h : Ok g y k
  · rw [loopX, okL_yes h]
    exact selTo_le _ _ (by have := h.1.n; omega)
  · rw [loopX, okL_no h]; simp
theorem arrX_mem {g : Gr} {k y : Int} {ch : List Int} (h : Ok g y k) {x : Int} : x ∈ arrX g k y ch ↔ Nd g x ∧ Arr (mixR g k y ch) y x := by
  have hn := h.1.n
  rw [arrX, okL_yes h, selTo_mem]
  unfold Nd
  constructor
  · rintro ⟨h1, h2⟩; exact ⟨⟨by omega, by omega⟩, h2⟩
  · rintro ⟨h1, h2⟩; exact ⟨⟨by omega, by omega⟩, h2⟩
theorem loopX_mem {g : Gr} {k y : Int} {ch : List Int} (h : Ok g y k) {x : Int} : x ∈ loopX g k y ch ↔ Nd g x ∧ Stp (mixR g k y ch) g.n.toNat x := by
  have hn := h.1.n
  rw [loopX, okL_yes h, selTo_mem]
  unfold Nd
  constructor
  · rintro ⟨h1, h2⟩; exact ⟨⟨by omega, by omega⟩, h2⟩
  · rintro ⟨h1, h2⟩; exact ⟨⟨by omega, by omega⟩, h2⟩
noncomputable def hopX (g : Gr) (x y : Int) : List Int := okL (GV g ∧ Nd g x ∧ Nd g y) (hopL g y x)
theorem hopX_len (g : Gr) (x y : Int) : (hopX g x y).length ≤ 8 := by
  by_cases h : GV g ∧ Nd g x ∧ Nd g y
  · rw [hopX, okL_yes h]; exact hopL_len h.1 _ _
  · rw [hopX, okL_no h]; simp
theorem mixX_len (g : Gr) (k y : Int) (ch : List Int) (x : Int) : (mixX g k y ch x).length ≤ 8 := by
  by_cases h : Ok g x k ∧ Nd g y
  · rw [mixX, okL_yes h]; exact mixR_len h.1.1 _ _ _ _
  · rw [mixX, okL_no h]; simp
theorem mixX_new {g : Gr} {f k n : Int} {ch : List Int} (hok : GV g ∧ Ix g f) (hin : n ∈ ch) : hopX (Wo g f.toNat) n k = mixX g f k ch n := by
  by_cases h : Ok g n f ∧ Nd g k
  · rw [mixX, okL_yes h, hopX, okL_yes ⟨wo_gv hok.1 _, wo_nd.2 h.1.2.2, wo_nd.2 h.2⟩]
    exact mixR_new hin
  · rw [mixX, okL_no h, hopX, okL_no fun h1 => h ⟨⟨hok.1, hok.2, wo_nd.1 h1.2.1⟩, wo_nd.1 h1.2.2⟩]
theorem mixX_old {g : Gr} {f k n : Int} {ch : List Int} (hf : Ix g f) (hin : n ∉ ch) : ((hopX g n k).filter fun m => tb (¬ lnk g n m = f)) = mixX g f k ch n := by
  by_cases h : Ok g n f ∧ Nd g k
  · rw [mixX, okL_yes h, hopX, okL_yes ⟨h.1.1, h.1.2.2, h.2⟩]
    exact mixR_old h.1.1 hf hin
  · rw [mixX, okL_no h, hopX, okL_no fun h1 => h ⟨⟨h1.1, hf, h1.2.1⟩, h1.2.2⟩]
    rfl
set_option maxHeartbeats 800000 in
theorem nextHopsX_any (v : Value) (g : Gr) (x y : Int) (w : World) (hv : GrR w w.heap.size v g) (hm : g.ls.length ≤ 1048576) :
    Calls Try.prog 37 #[v, .int .i64 x, .int .i64 y] w fun e w' => ∃ v', e = .returned v' ∧ Own ic 3 1 w' w.heap.size v' (hopX g x y) ∧ Below w.heap.size w w' := by
  have hvv := hv
  obtain ⟨A, cap, rfl, hfc, hfr⟩ := hv.form
  clear hfc hfr
  obtain ⟨wb, hwb⟩ : ∃ wb, wb = w.alloc (Obj.cells #[.int .i64 g.n, .slice A g.ls.length cap] 25) := ⟨_, rfl⟩
  have hbw : Below w.heap.size w wb := by rw [hwb]; exact below1 _ _
  have HB : Hid (Blk wb w.heap.size 25 #[.int .i64 g.n, .slice A g.ls.length cap]) := hide (by rw [hwb]; exact Blk.new _ _ _)
  have HV := hide (hvv.up hbw)
  obtain ⟨R, hR⟩ : ∃ R, R = hopX g x y := ⟨_, rfl⟩
  have HR := hide hR
  rw [← hR]
  clear hvv hv hR
  go_enter Try.func37, Try.ntmps37
  go_wp2_with fail
  rw [← hwb]
  clear hwb
  refine (hasNode_any _ g _ _ HV.out hm).mono ?_
  rintro e w1 ⟨rfl, hb1⟩
  have HB1 := hide (HB.out.up hb1)
  have HV1 := hide (HV.out.up hb1)
  have hb01 := hbw.trans (hb1.mono hbw.size)
  clear HB HV hb1 hbw
  have c0 := HB1.out.cell 0
  have c1 := HB1.out.cell 1
  by_cases hA : ¬ (GV g ∧ Nd g x)
  · rw [tb_no hA]
    have HK : Hid (R = []) := hide (by rw [HR.out, hopX, okL_no fun h => hA ⟨h.1, h.2.1⟩])
    clear hA
    go_wp2
    go_ret
    exact ⟨_, rfl, by rw [HK.out]; exact Own.nil _ _ _ _ _, hb01⟩
  have hA' := Classical.not_not.1 hA
  rw [tb_yes hA']
  have HA := hide hA'
  clear hA hA'
  go_wp2_with fail
  refine (hasNode_any _ g _ _ HV1.out hm).mono ?_
  rintro e w2 ⟨rfl, hb2⟩
  have HB2 := hide (HB1.out.up hb2)
  have HV2 := hide (HV1.out.up hb2)
  have hb02 := hb01.trans (hb2.mono hb01.size)
  clear HB1 HV1 hb2 hb01 c0 c1
  have c0 := HB2.out.cell 0
  have c1 := HB2.out.cell 1
  by_cases hA : ¬ (GV g ∧ Nd g y)
  · rw [tb_no hA]
    have HK : Hid (R = []) := hide (by rw [HR.out, hopX, okL_no fun h => hA ⟨h.1, h.2.2⟩])
    clear hA
    go_wp2
    go_ret
    exact ⟨_, rfl, by rw [HK.out]; exact Own.nil _ _ _ _ _, hb02⟩
  have hA' := Classical.not_not.1 hA
  rw [tb_yes hA']
  have HA2 := hide hA'
  have HK : Hid (hopL g y x = R) := hide (by rw [HR.out, hopX, okL_yes ⟨hA'.1, HA.out.2, hA'.2⟩])
  clear hA hA'
  go_wp2_with fail
  refine (nextHops_any _ g x y _ HV2.out HA2.out.1 HA.out.2 HA2.out.2).mono ?_
  rintro e w3 ⟨v3, rfl, hO3, hb3⟩
  rw [HK.out] at hO3
  have HO3 := hide (hO3.low hb02.size)
  have hb03 := hb02.trans (hb3.mono hb02.size)
  clear hO3 hb3
  go_wp2
  go_ret
  exact ⟨_, rfl, HO3.out, hb03⟩
set_option maxHeartbeats 800000 in
theorem graphLink_any (v : Value) (g : Gr) (a b : Int) (w : World) (hv : GrR w w.heap.size v g) (hm : g.ls.length ≤ 1048576) (hg : GV g) :
    Calls Try.prog 39 #[v, .int .i64 a, .int .i64 b] w fun e w' => e = .returned (.int .i64 (lnk g a b)) ∧ Below w.heap.size w w' := by
  have hvv := hv
  obtain ⟨A, cap, rfl, hc, hr⟩ := hv.form
  obtain ⟨wb, hwb⟩ : ∃ wb, wb = w.alloc (Obj.cells #[.int .i64 g.n, .slice A g.ls.length cap] 25) := ⟨_, rfl⟩
  have hbw : Below w.heap.size w wb := by rw [hwb]; exact below1 _ _
  have HB : Hid (Blk wb w.heap.size 25 #[.int .i64 g.n, .slice A g.ls.length cap]) := hide (by rw [hwb]; exact Blk.new _ _ _)
  have HV := hide (hvv.up hbw)
  have HG := hide hg
  clear hr hvv hv hg
  go_enter Try.func39, Try.ntmps39
  go_wp2_with fail
  rw [← hwb]
  clear hwb
  refine (graphValid_any _ g _ HV.out hm).mono ?_
  rintro e w1 ⟨rfl, hb1⟩
  rw [tb_yes HG.out]
  have HB1 := hide (HB.out.up hb1)
  have HV1 := hide (HV.out.up hb1)
  have hb01 := hbw.trans (hb1.mono hbw.size)
  clear HB HV hb1 hbw
  have c0 := HB1.out.cell 0
  have c1 := HB1.out.cell 1
  go_wp2_with fail
  refine (linkOf_any _ g a b _ HV1.out hm).mono ?_
  rintro e w2 ⟨rfl, hb2⟩
  go_wp2
  go_ret
  exact ⟨rfl, hb01.trans (hb2.mono hb01.size)⟩
set_option maxRecDepth 100000 in
set_option maxHeartbeats 1600000 in
theorem lawMixedNew (v : Value) (bs : List Int) (w : World) (hv : SlR bc 1 w w.heap.size v bs) (hm : bs.length ≤ 9223372036854775807 ∧ ∀ n ∈ bs, 0 ≤ n ∧ n ≤ 255) :
    Calls Try.prog 7 #[v] w fun e w' => e = .returned (.bool true) ∧ Below w.heap.size w w' := by
  by_cases hl : 1048576 < bs.length
  · obtain ⟨A, cap, rfl, hc, hr⟩ := hv
    clear hr hm
    go_enter Try.func7, Try.ntmps7
    go_wp2
    go_ret
    exact ⟨rfl, Below.refl _ _⟩
  have hvv := hv
  obtain ⟨A, cap, rfl, hc, hr⟩ := hvv
  have HM := hide hm
  clear hm hr hc
  go_enter Try.func7, Try.ntmps7
  go_wp2_with fail
  refine (drawMH_any _ bs _ hv HM.out).mono ?_
  rintro e w1 ⟨x1, cv, g, f, k, n, ch, rfl, hO1, hl15, hC1, hlc, hb1⟩
  obtain ⟨Ag, cg, rfl⟩ := hO1.lit
  obtain ⟨Ac, kc, rfl, _, _⟩ := hC1.lit
  obtain ⟨X, hX⟩ : ∃ X, X = w1.heap.size := ⟨_, rfl⟩
  obtain ⟨w2, hw2⟩ : ∃ w2, w2 = w1.alloc (Obj.cells #[.int .i64 g.n, .slice Ag g.ls.length cg] 25) := ⟨_, rfl⟩
  have h12 : Below w1.heap.size w1 w2 := by rw [hw2]; exact below1 _ _
  have HX2 := hide (show Blk w2 X 25 #[.int .i64 g.n, .slice Ag g.ls.length cg] from by rw [hw2, hX]; exact Blk.new _ _ _)
  have HG2 := hide (hO1.grr.up h12)
  have HC2 := hide (hC1.below h12)
  have hb2 := hb1.trans (h12.mono hb1.size)
  have hn : g.ls.length ≤ 1048576 := by omega
  have hlc' : ch.length ≤ 1048576 := by omega
  have c0 := HX2.out.cell 0
  have c1 := HX2.out.cell 1
  clear hO1 hC1 hb1 h12 HM
  go_upto_region 4 with fail
  rw [← hw2, ← hX]
  clear hw2 hX
  obtain ⟨R, hR⟩ : ∃ R, mixX g f k ch n = R := ⟨_, rfl⟩
  have HR := hide hR
  have hlo : R.length ≤ 1048576 := by rw [← hR]; exact Nat.le_trans (mixX_len _ _ _ _ _) (by decide)
  clear hR
  go_wp2_with fail
  refine (mixedHopsX_any _ _ g f k n ch _ HG2.out hn (HC2.out.slr ic_len) hlc').mono ?_
  rintro e w3 ⟨y3, rfl, hO3, hb3⟩
  rw [HR.out] at hO3
  obtain ⟨A3, k3, rfl, _, _⟩ := hO3.lit
  have HX3 := hide (HX2.out.up hb3)
  have HG3 := hide (HG2.out.up hb3)
  have HC3 := hide (HC2.out.below hb3)
  have hb03 := hb2.trans (hb3.mono hb2.size)
  clear c0 c1 HX2 HG2 HC2 hb2
  have c0 := HX3.out.cell 0
  have c1 := HX3.out.cell 1
  go_wp2_with fail
  refine (specMixed_any _ _ g f k n ch _ HG3.out hn (HC3.out.slr ic_len) hlc').mono ?_
  rintro e w4 ⟨y4, rfl, hO4, hb4⟩
  rw [HR.out] at hO4
  obtain ⟨A4, k4, rfl, _, _⟩ := hO4.lit
  have HX4 := hide (HX3.out.up hb4)
  have HG4 := hide (HG3.out.up hb4)
  have HC4 := hide (HC3.out.below hb4)
  have HO4 := hide (hO3.below hb4)
  have HW4 := hide hO4
  have hb04 := hb03.trans (hb4.mono hb03.size)
  clear c0 c1 HX3 HG3 HC3 hb03 hO3 hO4 hb3 hb4
  have c0 := HX4.out.cell 0
  have c1 := HX4.out.cell 1
  go_wp2_with fail
  refine (same_any _ _ R R _ (HO4.out.slr ic_len) (HW4.out.slr ic_len) hlo hlo).mono ?_
  rintro e w5 ⟨rfl, hb5⟩
  rw [eqB_self]
  have HX5 := hide (HX4.out.up hb5)
  have HG5 := hide (HG4.out.up hb5)
  have HC5 := hide (HC4.out.below hb5)
  have HO5 := hide (HO4.out.below hb5)
  have HW5 := hide (HW4.out.below hb5)
  have hb05 := hb04.trans (hb5.mono hb04.size)
  clear c0 c1 HX4 HG4 HC4 HO4 HW4 hb04 hb5
  have c0 := HX5.out.cell 0
  have c1 := HX5.out.cell 1
  by_cases hk0 : f < 0
  · go_wp2_with fail
    refine (same_any _ _ R R _ (HO5.out.slr ic_len) (HW5.out.slr ic_len) hlo hlo).mono ?_
    rintro e wz ⟨rfl, hbz⟩
    rw [eqB_self]
    go_wp2
    go_ret
    exact ⟨rfl, hb05.trans (hbz.mono hb05.size)⟩
  by_cases hkn : (g.ls.length : Int) ≤ f
  · go_wp2_with fail
    refine (same_any _ _ R R _ (HO5.out.slr ic_len) (HW5.out.slr ic_len) hlo hlo).mono ?_
    rintro e wz ⟨rfl, hbz⟩
    rw [eqB_self]
    go_wp2
    go_ret
    exact ⟨rfl, hb05.trans (hbz.mono hb05.size)⟩
  go_wp2_with fail
  refine (hasInt_any _ ch n _ (HC5.out.slr ic_len) hlc').mono ?_
  rintro e w6 ⟨rfl, hb6⟩
  have HX6 := hide (HX5.out.up hb6)
  have HG6 := hide (HG5.out.up hb6)
  have HC6 := hide (HC5.out.below hb6)
  have HO6 := hide (HO5.out.below hb6)
  have HW6 := hide (HW5.out.below hb6)
  have hb06 := hb05.trans (hb6.mono hb05.size)
  clear c0 c1 HX5 HG5 HC5 HO5 HW5 hb05 hb6
  have c0 := HX6.out.cell 0
  have c1 := HX6.out.cell 1
  by_cases hin : ¬ n ∈ ch
  · rw [tb_no hin]
    clear hin
    go_wp2_with fail
    refine (same_any _ _ R R _ (HO6.out.slr ic_len) (HW6.out.slr ic_len) hlo hlo).mono ?_
    rintro e wz ⟨rfl, hbz⟩
    rw [eqB_self]
    go_wp2
    go_ret
    exact ⟨rfl, hb06.trans (hbz.mono hb06.size)⟩
  have hin' := Classical.not_not.1 hin
  rw [tb_yes hin']
  have HIN := hide hin'
  clear hin hin'
  go_wp2_with fail
  refine (without_any _ g f _ HG6.out hn).mono ?_
  rintro e w7 ⟨v7, rfl, hO7, hb7⟩
  by_cases hok : ¬ (GV g ∧ Ix g f)
  · rw [woX_no hok] at hO7
    rw [tb_no hok]
    obtain ⟨A7, c7, rfl⟩ := hO7.lit
    have hb07 := hb06.trans (hb7.mono hb06.size)
    have h78 := below1 w7 (Obj.cells #[.int .i64 (0 : Int), .slice A7 ([] : List Lk).length c7] 25)
    clear hok hO7 hb7
    go_wp2
    go_ret
    exact ⟨rfl, hb07.trans (h78.mono hb07.size)⟩
  have hok' := Classical.not_not.1 hok
  clear hok
  have hok := hok'
  have HMX := hide (mixX_new (k := k) hok HIN.out)
  rw [HR.out] at HMX
  rw [woX_yes hok] at hO7
  rw [tb_yes hok]
  obtain ⟨G, hG⟩ : ∃ G, G = Wo g f.toNat := ⟨_, rfl⟩
  have hGl : G.ls.length ≤ 1048576 := by rw [hG]; exact Nat.le_trans (List.length_eraseIdx_le _ _) hn
  have HGE := hide hG
  rw [← hG] at hO7
  obtain ⟨A7, c7, rfl⟩ := hO7.lit
  have h78 := below1 w7 (Obj.cells #[.int .i64 G.n, .slice A7 G.ls.length c7] 25)
  have hb07 := hb06.trans (hb7.mono hb06.size)
  have hb08 := hb07.trans (h78.mono hb07.size)
  have HX8 := hide ((HX6.out.up hb7).up h78)
  have HG8 := hide ((HG6.out.up hb7).up h78)
  have HO8 := hide ((HO6.out.below hb7).below h78)
  have HGG := hide (hO7.grr.up h78)
  have HY8 := hide (Blk.new w7 25 #[.int .i64 G.n, .slice A7 G.ls.length c7])
  obtain ⟨Y, hY⟩ : ∃ Y, Y = w7.heap.size := ⟨_, rfl⟩
  obtain ⟨w8, hw8⟩ : ∃ w8, w8 = w7.alloc (Obj.cells #[.int .i64 G.n, .slice A7 G.ls.length c7] 25) := ⟨_, rfl⟩
  rw [← hw8] at hb08 HX8 HG8 HO8 HGG HY8
  rw [← hY] at HY8
  clear c0 c1 HX6 HG6 HC6 HO6 HW6 hb06 hb7 hb07 h78 hO7 hG
  go_upto_region 9 with fail
  rw [← hw8, ← hY]
  clear hw8 hY
  rw [← HGE.out] at HMX
  have d0 := HY8.out.cell 0
  have d1 := HY8.out.cell 1
  clear hok
  go_wp2_with fail
  refine (nextHopsX_any _ G n k _ HGG.out hGl).mono ?_
  rintro e w9 ⟨y9, rfl, hO9, hb9⟩
  rw [HMX.out] at hO9
  obtain ⟨A9, k9, rfl, _, _⟩ := hO9.lit
  have HO9 := hide (HO8.out.below hb9)
  have HP9 := hide hO9
  have hb09 := hb08.trans (hb9.mono hb08.size)
  clear hO9 hb9 d0 d1
  go_wp2_with fail
  refine (same_any _ _ R R _ (HO9.out.slr ic_len) (HP9.out.slr ic_len) hlo hlo).mono ?_
  rintro e w10 ⟨rfl, hb10⟩
  rw [eqB_self]
  go_wp2
  go_ret
  exact ⟨rfl, hb09.trans (hb10.mono hb09.size)⟩

set_option maxRecDepth 100000 in
set_option maxHeartbeats 1600000 in
theorem lawMixedOld (v : Value) (bs : List Int) (w : World) (hv : SlR bc 1 w w.heap.size v bs) (hm : bs.length ≤ 9223372036854775807 ∧ ∀ n ∈ bs, 0 ≤ n ∧ n ≤ 255) :
    Calls Try.prog 9 #[v] w fun e w' => e = .returned (.bool true) ∧ Below w.heap.size w w' := by
  by_cases hl : 1048576 < bs.length
  · obtain ⟨A, cap, rfl, hc, hr⟩ := hv
    clear hr hm
    go_enter Try.func9, Try.ntmps9
    go_wp2
    go_ret
    exact ⟨rfl, Below.refl _ _⟩
  have hvv := hv
  obtain ⟨A, cap, rfl, hc, hr⟩ := hvv
  have HM := hide hm
  clear hm hr hc
  go_enter Try.func9, Try.ntmps9
  go_wp2_with fail
  refine (drawMH_any _ bs _ hv HM.out).mono ?_
  rintro e w1 ⟨x1, cv, g, f, k, n, ch, rfl, hO1, hl15, hC1, hlc, hb1⟩
  obtain ⟨Ag, cg, rfl⟩ := hO1.lit
  obtain ⟨Ac, kc, rfl, _, _⟩ := hC1.lit
  obtain ⟨X, hX⟩ : ∃ X, X = w1.heap.size := ⟨_, rfl⟩
  obtain ⟨w2, hw2⟩ : ∃ w2, w2 = w1.alloc (Obj.cells #[.int .i64 g.n, .slice Ag g.ls.length cg] 25) := ⟨_, rfl⟩
  have h12 : Below w1.heap.size w1 w2 := by rw [hw2]; exact below1 _ _
  have HX2 := hide (show Blk w2 X 25 #[.int .i64 g.n, .slice Ag g.ls.length cg] from by rw [hw2, hX]; exact Blk.new _ _ _)
  have HG2 := hide (hO1.grr.up h12)
  have HC2 := hide (hC1.below h12)
  have hb2 := hb1.trans (h12.mono hb1.size)
  have hn : g.ls.length ≤ 1048576 := by omega
  have hlc' : ch.length ≤ 1048576 := by omega
  have c0 := HX2.out.cell 0
  have c1 := HX2.out.cell 1
  clear hO1 hC1 hb1 h12 HM
  go_upto_region 4 with fail
  rw [← hw2, ← hX]
  clear hw2 hX
  obtain ⟨R, hR⟩ : ∃ R, mixX g f k ch n = R := ⟨_, rfl⟩
  have HR := hide hR
  have hlo : R.length ≤ 1048576 := by rw [← hR]; exact Nat.le_trans (mixX_len _ _ _ _ _) (by decide)
  clear hR
  go_wp2_with fail
  refine (mixedHopsX_any _ _ g f k n ch _ HG2.out hn (HC2.out.slr ic_len) hlc').mono ?_
  rintro e w3 ⟨y3, rfl, hO3, hb3⟩
  rw [HR.out] at hO3
  obtain ⟨A3, k3, rfl, _, _⟩ := hO3.lit
  have HX3 := hide (HX2.out.up hb3)
  have HG3 := hide (HG2.out.up hb3)
  have HC3 := hide (HC2.out.below hb3)
  have hb03 := hb2.trans (hb3.mono hb2.size)
  clear c0 c1 HX2 HG2 HC2 hb2
  have c0 := HX3.out.cell 0
  have c1 := HX3.out.cell 1
  go_wp2_with fail
  refine (specMixed_any _ _ g f k n ch _ HG3.out hn (HC3.out.slr ic_len) hlc').mono ?_
  rintro e w4 ⟨y4, rfl, hO4, hb4⟩
  rw [HR.out] at hO4
  obtain ⟨A4, k4, rfl, _, _⟩ := hO4.lit
  have HX4 := hide (HX3.out.up hb4)
  have HG4 := hide (HG3.out.up hb4)
  have HC4 := hide (HC3.out.below hb4)
  have HO4 := hide (hO3.below hb4)
  have HW4 := hide hO4
  have hb04 := hb03.trans (hb4.mono hb03.size)
  clear c0 c1 HX3 HG3 HC3 hb03 hO3 hO4 hb3 hb4
  have c0 := HX4.out.cell 0
  have c1 := HX4.out.cell 1
  go_wp2_with fail
  refine (same_any _ _ R R _ (HO4.out.slr ic_len) (HW4.out.slr ic_len) hlo hlo).mono ?_
  rintro e w5 ⟨rfl, hb5⟩
  rw [eqB_self]
  have HX5 := hide (HX4.out.up hb5)
  have HG5 := hide (HG4.out.up hb5)
  have HC5 := hide (HC4.out.below hb5)
  have HO5 := hide (HO4.out.below hb5)
  have HW5 := hide (HW4.out.below hb5)
  have hb05 := hb04.trans (hb5.mono hb04.size)
  clear c0 c1 HX4 HG4 HC4 HO4 HW4 hb04 hb5
  have c0 := HX5.out.cell 0
  have c1 := HX5.out.cell 1
  by_cases hk0 : f < 0
  · go_wp2_with fail
    refine (same_any _ _ R R _ (HO5.out.slr ic_len) (HW5.out.slr ic_len) hlo hlo).mono ?_
    rintro e wz ⟨rfl, hbz⟩
    rw [eqB_self]
    go_wp2
    go_ret
    exact ⟨rfl, hb05.trans (hbz.mono hb05.size)⟩
  by_cases hkn : (g.ls.length : Int) ≤ f
  · go_wp2_with fail
    refine (same_any _ _ R R _ (HO5.out.slr ic_len) (HW5.out.slr ic_len) hlo hlo).mono ?_
    rintro e wz ⟨rfl, hbz⟩
    rw [eqB_self]
    go_wp2
    go_ret
    exact ⟨rfl, hb05.trans (hbz.mono hb05.size)⟩
  go_wp2_with fail
  refine (hasInt_any _ ch n _ (HC5.out.slr ic_len) hlc').mono ?_
  rintro e w6 ⟨rfl, hb6⟩
  have HX6 := hide (HX5.out.up hb6)
  have HG6 := hide (HG5.out.up hb6)
  have HC6 := hide (HC5.out.below hb6)
  have HO6 := hide (HO5.out.below hb6)
  have HW6 := hide (HW5.out.below hb6)
  have hb06 := hb05.trans (hb6.mono hb05.size)
  clear c0 c1 HX5 HG5 HC5 HO5 HW5 hb05 hb6
  have c0 := HX6.out.cell 0
  have c1 := HX6.out.cell 1
  by_cases hin : n ∈ ch
  · rw [tb_yes hin]
    clear hin
    go_wp2_with fail
    refine (same_any _ _ R R _ (HO6.out.slr ic_len) (HW6.out.slr ic_len) hlo hlo).mono ?_
    rintro e wz ⟨rfl, hbz⟩
    rw [eqB_self]
    go_wp2
    go_ret
    exact ⟨rfl, hb06.trans (hbz.mono hb06.size)⟩
  rw [tb_no hin]
  have HRX := hide (mixX_old (g := g) (k := k) (f := f) ⟨by omega, by omega⟩ hin)
  rw [HR.out] at HRX
  clear hin
  go_wp2_with fail
  refine (nextHopsX_any _ g n k _ HG6.out hn).mono ?_
  rintro e w7 ⟨y7, rfl, hO7, hb7⟩
  obtain ⟨H, hH⟩ : ∃ H, H = hopX g n k := ⟨_, rfl⟩
  have hHl : H.length ≤ 8 := by rw [hH]; exact hopX_len _ _ _
  have HHG : Hid (H ≠ [] → GV g) := hide fun h => Classical.byContradiction fun h1 => h (by rw [hH, hopX, okL_no fun h2 => h1 h2.1])
  rw [← hH] at hO7 HRX
  obtain ⟨A7, k7, rfl, _, _⟩ := hO7.lit
  obtain ⟨q, hq⟩ : ∃ q : Int → Bool, q = fun m => tb (¬ lnk g n m = f) := ⟨_, rfl⟩
  have HQ := hide hq
  rw [← hq] at HRX
  have HP7 := hide hO7
  have HX7 := hide (HX6.out.up hb7)
  have HG7 := hide (HG6.out.up hb7)
  have HC7 := hide (HC6.out.below hb7)
  have HO7 := hide (HO6.out.below hb7)
  have HW7 := hide (HW6.out.below hb7)
  have hb07 := hb06.trans (hb7.mono hb06.size)
  clear c0 c1 HX6 HG6 HC6 HO6 HW6 hb06 hb7
  have c0 := HX7.out.cell 0
  have c1 := HX7.out.cell 1
  have h78 := below1 w7 (Obj.cells #[] 3)
  have hE := ownE (enc := ic) (s := 1) w7 3 (Nat.le_refl _)
  obtain ⟨w8, hw8⟩ : ∃ w8, w8 = w7.alloc (Obj.cells #[] 3) := ⟨_, rfl⟩
  obtain ⟨E, hEE⟩ : ∃ E, E = w7.heap.size := ⟨_, rfl⟩
  rw [← hw8] at h78 hE
  have hE8 : Own ic 3 1 w8 w7.heap.size (.slice (some ⟨E, 0, none⟩) 0 0) [] := by rw [hEE]; exact hE
  have hlt8 : E < w8.heap.size := (World.ownsRow.lt hE8 E rfl).2
  have HT : Hid (OutI w7 w8 w8 (.slice (some ⟨E, 0, none⟩) 0 0) [] w8.heap.size) := hide (OutE.start h78 hE8 fun q hq => by cases hq; exact hlt8)
  clear hE hE8 hlt8 hH hq hO7 h78 c0 c1
  go_upto_region 10 with fail
  rw [← hw8, ← hEE]
  clear hw8 hEE
  go_wp2
  go_loopg [11, 12] (H.length) (fun gg rv iv wr => ∃ (i : Nat) (A5 : Option Addr) (c5 : Nat), i + gg = H.length ∧ rv = .slice A5 (filTo q H i).length c5 ∧ iv = .int .i64 i ∧ Hid (OutI w7 w8 wr (.slice A5 (filTo q H i).length c5) (filTo q H i) w8.heap.size))
  case atStart => exact ⟨0, _, _, by omega, rfl, rfl, HT⟩
  case round =>
    clear HT
    obtain ⟨i, A5, c5, hi, rfl, rfl, HOT⟩ := hrel
    obtain ⟨L, hL⟩ : ∃ L, L = filTo q H i := ⟨_, rfl⟩
    have HL := hide hL
    have hLl : L.length ≤ 8 := by rw [hL]; exact Nat.le_trans (filTo_len _ _) hHl
    rw [← hL] at HOT
    rw [← hL]
    clear hL
    have hbw7 := HOT.out.bw
    by_cases hlt : i < H.length
    · obtain ⟨m, hmm⟩ := get_some hlt
      have HGV : Hid (GV g) := hide (HHG.out fun h => by rw [h] at hlt; simp at hlt)
      have HMM := hide hmm
      have hP := HP7.out.below HOT.out.bw
      obtain ⟨o7, k7', he, _, _⟩ := hP.form (by omega)
      obtain ⟨rfl, rfl⟩ : A7 = some ⟨o7, 0, none⟩ ∧ k7 = k7' := by
        injection he with h1 h2 h3
        exact ⟨h1, h3⟩
      have xm := own_int hP hmm
      obtain ⟨j, hj⟩ : ∃ j, j = lnk g n m := ⟨_, rfl⟩
      have hcl := fun z => graphLink_any _ g n m (wext wr z) ((HG7.out.up hbw7).up (wext_below wr z)) hn HGV.out
      rw [← hj] at hcl
      have HCL := hide hcl
      have HJ : Hid (q m = tb (¬ j = f)) := hide (by rw [HQ.out, hj])
      have e0 := fun z => wext_cell wr z xm
      have e1 := fun z => wext_cell wr z ((HX7.out.up hbw7).cell 0)
      have e2 := fun z => wext_cell wr z ((HX7.out.up hbw7).cell 1)
      clear he hcl hj hmm hP
      by_cases hjk : j = f
      · have e3 : (j != f) = false := by simp [hjk]
        have HNx : Hid (filTo q H (i + 1) = L) := hide (by rw [filTo_no HMM.out (by rw [HJ.out]; exact tb_no fun h => h hjk), HL.out])
        clear hjk xm
        go_upto_region 13 with fail
        refine region_q (by kernel_rfl) (by kernel_rfl) ?_
        repeat (go_big_quiet_step ((first | (go_at_call 39; with_reducible exact q_call (HCL.out _)))))
        refine wpQuiet_nil ?_
        intro wx hbx
        clear e3 hbw7
        clear e0 e1 e2
        have HO3 := hide (HOT.out.below hbx)
        clear HOT
        go_wp2
        go_roundg (gk - 1)
        case measure => omega
        case rel => exact ⟨i + 1, _, c5, by omega, by rw [HNx.out], by go_num, by rw [HNx.out]; exact HO3⟩
      · have e3 : (j != f) = true := by simp [hjk]
        have HNx : Hid (filTo q H (i + 1) = L ++ [m]) := hide (by rw [filTo_yes HMM.out (by rw [HJ.out]; exact tb_yes hjk), HL.out])
        clear hjk
        go_upto_region 13 with fail
        refine region_q (by kernel_rfl) (by kernel_rfl) ?_
        repeat (go_big_quiet_step ((first | (go_at_call 39; with_reducible exact q_call (HCL.out _)))))
        refine wpQuiet_nil ?_
        intro wx hbx
        have xm2 := (hbx.cell (World.block_lt_of_cell? wr _ xm)).trans xm
        have HO3 := hide (HOT.out.below hbx)
        clear e0 e1 e2 e3 xm HOT hbw7
        go_upto_region 12 with (at_builtin; refine wpList_appO (by rfl) infI (.tmp 79) (.tmp 84) (by rfl) _ _ (by rfl) (by rfl) w7 w8 w8.heap.size L [m] (filTo q H (i + 1)) (filTo q H (i + 1)).length HNx.out rfl (HO3.out.below (below1 _ _)) (slr_lit _ _) (by rw [HNx.out]; simp; omega) ?_; intro Ay capy w4 hO4)
        have HO4 := hide hO4
        clear hO4 HO3 xm2
        go_wp2
        go_roundg (gk - 1)
        case measure => omega
        case rel => exact ⟨i + 1, _, _, by omega, rfl, by go_num, HO4⟩
    · have HHL : Hid (L = R) := hide (by rw [← HRX.out, HL.out, filTo_all (by omega)])
      have HRa := hide (HO7.out.below hbw7)
      have HRb := hide HOT.out.o
      rw [HHL.out] at HRb
      rw [HHL.out]
      have hbf := hb07.trans (hbw7.mono hb07.size)
      clear HOT hbw7
      go_wp2_with fail
      refine (same_any _ _ R R _ (HRa.out.slr ic_len) (HRb.out.slr ic_len) hlo hlo).mono ?_
      rintro e w9 ⟨rfl, hb9⟩
      rw [eqB_self]
      go_wp2
      go_ret
      exact ⟨rfl, hbf.trans (hb9.mono hbf.size)⟩
theorem both_no {g : Gr} {f k x : Int} {ch : List Int} (h : x ∈ arrX g f k ch) : x ∉ loopX g f k ch := by
  intro h1
  by_cases hK : Ok g k f
  · rw [arrX_mem hK] at h
    rw [loopX_mem hK] at h1
    have hn := hK.1.n
    have hx := h.1
    unfold Nd at hx
    obtain ⟨j, hj⟩ := h.2.ends (mix_self hK.1 hK.2.2)
    exact hj (stp_all (fun x m => mixR_in hK.1 x m) (by omega) h1.2 j)
  · rw [arrX, okL_no hK] at h
    cases h
theorem arrX_asc (g : Gr) (f k : Int) (ch : List Int) : (arrX g f k ch).Pairwise (· < ·) := by
  by_cases hK : Ok g k f
  · rw [arrX, okL_yes hK]; exact selTo_asc _ _
  · rw [arrX, okL_no hK]; exact List.Pairwise.nil
set_option maxRecDepth 100000 in
set_option maxHeartbeats 1600000 in
theorem lawArrivesNoLoop (v : Value) (bs : List Int) (w : World) (hv : SlR bc 1 w w.heap.size v bs) (hm : bs.length ≤ 9223372036854775807 ∧ ∀ n ∈ bs, 0 ≤ n ∧ n ≤ 255) :
    Calls Try.prog 14 #[v] w fun e w' => e = .returned (.bool true) ∧ Below w.heap.size w w' := by
  by_cases hl : 1048576 < bs.length
  · obtain ⟨A, cap, rfl, hc, hr⟩ := hv
    clear hr hm
    go_enter Try.func14, Try.ntmps14
    go_wp2
    go_ret
    exact ⟨rfl, Below.refl _ _⟩
  have hvv := hv
  obtain ⟨A, cap, rfl, hc, hr⟩ := hvv
  have HM := hide hm
  clear hm hr hc
  go_enter Try.func14, Try.ntmps14
  go_wp2_with fail
  refine (drawMA_any _ bs _ hv HM.out).mono ?_
  rintro e w1 ⟨x1, cv, g, f, k, ch, rfl, hO1, hl15, hC1, hlc, hb1⟩
  obtain ⟨Ag, cg, rfl⟩ := hO1.lit
  obtain ⟨Ac, kc, rfl, _, _⟩ := hC1.lit
  obtain ⟨X, hX⟩ : ∃ X, X = w1.heap.size := ⟨_, rfl⟩
  obtain ⟨w2, hw2⟩ : ∃ w2, w2 = w1.alloc (Obj.cells #[.int .i64 g.n, .slice Ag g.ls.length cg] 25) := ⟨_, rfl⟩
  have h12 : Below w1.heap.size w1 w2 := by rw [hw2]; exact below1 _ _
  have HX2 := hide (show Blk w2 X 25 #[.int .i64 g.n, .slice Ag g.ls.length cg] from by rw [hw2, hX]; exact Blk.new _ _ _)
  have HG2 := hide (hO1.grr.up h12)
  have HC2 := hide (hC1.below h12)
  have hb2 := hb1.trans (h12.mono hb1.size)
  have hn : g.ls.length ≤ 1048576 := by omega
  have hlc' : ch.length ≤ 1048576 := by omega
  have c0 := HX2.out.cell 0
  have c1 := HX2.out.cell 1
  clear hO1 hC1 hb1 h12 HM
  go_upto_region 4 with fail
  rw [← hw2, ← hX]
  clear hw2 hX
  obtain ⟨R, hR⟩ : ∃ R, arrX g f k ch = R := ⟨_, rfl⟩
  have HR := hide hR
  have hlo : R.length ≤ 1048576 := by rw [← hR]; exact Nat.le_trans (arrX_len _ _ _ _) (by decide)
  clear hR
  go_wp2_with fail
  refine (mixedArrives_any _ _ g f k ch _ HG2.out hn (HC2.out.slr ic_len) hlc').mono ?_
  rintro e w3 ⟨y3, rfl, hO3, hb3⟩
  rw [HR.out] at hO3
  obtain ⟨A3, k3, rfl, _, _⟩ := hO3.lit
  have HX3 := hide (HX2.out.up hb3)
  have HG3 := hide (HG2.out.up hb3)
  have HC3 := hide (HC2.out.below hb3)
  have hb03 := hb2.trans (hb3.mono hb2.size)
  clear c0 c1 HX2 HG2 HC2 hb2
  have c0 := HX3.out.cell 0
  have c1 := HX3.out.cell 1
  go_wp2_with fail
  refine (specArrives_any _ _ g f k ch _ HG3.out hn (HC3.out.slr ic_len) hlc').mono ?_
  rintro e w4 ⟨y4, rfl, hO4, hb4⟩
  rw [HR.out] at hO4
  obtain ⟨A4, k4, rfl, _, _⟩ := hO4.lit
  have HX4 := hide (HX3.out.up hb4)
  have HG4 := hide (HG3.out.up hb4)
  have HC4 := hide (HC3.out.below hb4)
  have HO4 := hide (hO3.below hb4)
  have HW4 := hide hO4
  have hb04 := hb03.trans (hb4.mono hb03.size)
  clear c0 c1 HX3 HG3 HC3 hb03 hO3 hO4 hb3 hb4
  have c0 := HX4.out.cell 0
  have c1 := HX4.out.cell 1
  go_wp2_with fail
  refine (same_any _ _ R R _ (HO4.out.slr ic_len) (HW4.out.slr ic_len) hlo hlo).mono ?_
  rintro e w5 ⟨rfl, hb5⟩
  rw [eqB_self]
  have HX5 := hide (HX4.out.up hb5)
  have HG5 := hide (HG4.out.up hb5)
  have HC5 := hide (HC4.out.below hb5)
  have HO5 := hide (HO4.out.below hb5)
  have HW5 := hide (HW4.out.below hb5)
  have hb05 := hb04.trans (hb5.mono hb04.size)
  clear c0 c1 HX4 HG4 HC4 HO4 HW4 hb04 hb5
  have c0 := HX5.out.cell 0
  have c1 := HX5.out.cell 1
  go_wp2_with fail
  refine (mixedLoop_any _ _ g f k ch _ HG5.out hn (HC5.out.slr ic_len) hlc').mono ?_
  rintro e w6 ⟨y6, rfl, hO6, hb6⟩
  obtain ⟨B, hB⟩ : ∃ B, B = loopX g f k ch := ⟨_, rfl⟩
  have hBl : B.length ≤ 1048576 := by rw [hB]; exact Nat.le_trans (loopX_len _ _ _ _) (by decide)
  rw [← hB] at hO6
  obtain ⟨A6, k6, rfl, _, _⟩ := hO6.lit
  have HBO := hide hO6
  have HNO : Hid (∀ x, x ∈ R → x ∉ B) := hide fun x hx => by
    rw [← HR.out] at hx
    rw [hB]
    exact both_no hx
  have HAS : Hid (R.Pairwise (· < ·)) := hide (by rw [← HR.out]; exact arrX_asc _ _ _ _)
  have HX6 := hide (HX5.out.up hb6)
  have HG6 := hide (HG5.out.up hb6)
  have HC6 := hide (HC5.out.below hb6)
  have HO6 := hide (HO5.out.below hb6)
  have HW6 := hide (HW5.out.below hb6)
  have hb06 := hb05.trans (hb6.mono hb05.size)
  clear c0 c1 HX5 HG5 HC5 HO5 HW5 hb05 hb6
  have c0 := HX6.out.cell 0
  have c1 := HX6.out.cell 1
  clear hO6 hB c0 c1
  go_wp2
  go_loopg [10] (R.length) (fun gg iv wr => ∃ i : Nat, i + gg = R.length ∧ iv = .int .i64 i ∧ Below w6.heap.size w6 wr)
  case atStart => exact ⟨0, by omega, rfl, Below.refl _ _⟩
  case round =>
    obtain ⟨i, hi, rfl, hbe⟩ := hrel
    have HOe := hide (HO6.out.below hbe)
    by_cases hlt : i < R.length
    · obtain ⟨x, hx⟩ := get_some hlt
      have hxm := HNO.out x (List.mem_of_getElem? hx)
      obtain ⟨o3, k3', he, _, _⟩ := HOe.out.form (by omega)
      obtain ⟨rfl, rfl⟩ : A3 = some ⟨o3, 0, none⟩ ∧ k3 = k3' := by
        injection he with h1 h2 h3
        exact ⟨h1, h3⟩
      have xm := own_int HOe.out hx
      have HXM := hide hxm
      clear he hx hxm HOe
      go_wp2_with fail
      refine (hasInt_any _ B x _ ((HBO.out.below hbe).slr ic_len) hBl).mono ?_
      rintro e w8 ⟨rfl, hb8⟩
      rw [tb_no HXM.out]
      have hbe8 := hbe.trans (hb8.mono hbe.size)
      clear xm hb8
      go_wp2
      go_roundg (gk - 1)
      case measure => omega
      case rel => exact ⟨i + 1, by omega, by go_num, hbe8⟩
    · go_wp2_with fail
      refine (ascending_any _ R _ (HOe.out.slr ic_len) hlo HAS.out).mono ?_
      rintro e w8 ⟨rfl, hb8⟩
      go_wp2
      go_ret
      exact ⟨rfl, hb06.trans ((hbe.trans (hb8.mono hbe.size)).mono hb06.size)⟩
theorem safe_arr {g : Gr} {f k x : Int} {ch : List Int} (hK : Ok g k f) (h : x ∈ safeL g k f) : x ∈ arrX g f k ch := by
  have hn := hK.1.n
  have hl := lk_at hK.2.1
  rw [safeL, okL_yes hK, selTo_mem] at h
  have hx : Nd g x := ⟨h.1.1, by omega⟩
  rw [arrX_mem hK]
  exact ⟨hx, arr_unused hK.1 hl hK.2.2 _ x hx h.2.1 (fun hu => h.2.2 (hu.symm hK.1 (List.mem_of_getElem? hl) hx hK.2.2)) (Nat.le_refl _)⟩
set_option maxRecDepth 100000 in
set_option maxHeartbeats 1600000 in
theorem lawArrivesSome (v : Value) (bs : List Int) (w : World) (hv : SlR bc 1 w w.heap.size v bs) (hm : bs.length ≤ 9223372036854775807 ∧ ∀ n ∈ bs, 0 ≤ n ∧ n ≤ 255) :
    Calls Try.prog 13 #[v] w fun e w' => e = .returned (.bool true) ∧ Below w.heap.size w w' := by
  by_cases hl : 1048576 < bs.length
  · obtain ⟨A, cap, rfl, hc, hr⟩ := hv
    clear hr hm
    go_enter Try.func13, Try.ntmps13
    go_wp2
    go_ret
    exact ⟨rfl, Below.refl _ _⟩
  have hvv := hv
  obtain ⟨A, cap, rfl, hc, hr⟩ := hvv
  have HM := hide hm
  clear hm hr hc
  go_enter Try.func13, Try.ntmps13
  go_wp2_with fail
  refine (drawMA_any _ bs _ hv HM.out).mono ?_
  rintro e w1 ⟨x1, cv, g, f, k, ch, rfl, hO1, hl15, hC1, hlc, hb1⟩
  obtain ⟨Ag, cg, rfl⟩ := hO1.lit
  obtain ⟨Ac, kc, rfl, _, _⟩ := hC1.lit
  obtain ⟨X, hX⟩ : ∃ X, X = w1.heap.size := ⟨_, rfl⟩
  obtain ⟨w2, hw2⟩ : ∃ w2, w2 = w1.alloc (Obj.cells #[.int .i64 g.n, .slice Ag g.ls.length cg] 25) := ⟨_, rfl⟩
  have h12 : Below w1.heap.size w1 w2 := by rw [hw2]; exact below1 _ _
  have HX2 := hide (show Blk w2 X 25 #[.int .i64 g.n, .slice Ag g.ls.length cg] from by rw [hw2, hX]; exact Blk.new _ _ _)
  have HG2 := hide (hO1.grr.up h12)
  have HC2 := hide (hC1.below h12)
  have hb2 := hb1.trans (h12.mono hb1.size)
  have hn : g.ls.length ≤ 1048576 := by omega
  have hlc' : ch.length ≤ 1048576 := by omega
  have c0 := HX2.out.cell 0
  have c1 := HX2.out.cell 1
  clear hO1 hC1 hb1 h12 HM
  go_upto_region 4 with fail
  rw [← hw2, ← hX]
  clear hw2 hX
  obtain ⟨R, hR⟩ : ∃ R, arrX g f k ch = R := ⟨_, rfl⟩
  have HR := hide hR
  have hlo : R.length ≤ 1048576 := by rw [← hR]; exact Nat.le_trans (arrX_len _ _ _ _) (by decide)
  clear hR
  go_wp2_with fail
  refine (mixedArrives_any _ _ g f k ch _ HG2.out hn (HC2.out.slr ic_len) hlc').mono ?_
  rintro e w3 ⟨y3, rfl, hO3, hb3⟩
  rw [HR.out] at hO3
  obtain ⟨A3, k3, rfl, _, _⟩ := hO3.lit
  have HX3 := hide (HX2.out.up hb3)
  have HG3 := hide (HG2.out.up hb3)
  have HC3 := hide (HC2.out.below hb3)
  have hb03 := hb2.trans (hb3.mono hb2.size)
  clear c0 c1 HX2 HG2 HC2 hb2
  have c0 := HX3.out.cell 0
  have c1 := HX3.out.cell 1
  go_wp2_with fail
  refine (specArrives_any _ _ g f k ch _ HG3.out hn (HC3.out.slr ic_len) hlc').mono ?_
  rintro e w4 ⟨y4, rfl, hO4, hb4⟩
  rw [HR.out] at hO4
  obtain ⟨A4, k4, rfl, _, _⟩ := hO4.lit
  have HX4 := hide (HX3.out.up hb4)
  have HG4 := hide (HG3.out.up hb4)
  have HC4 := hide (HC3.out.below hb4)
  have HO4 := hide (hO3.below hb4)
  have HW4 := hide hO4
  have hb04 := hb03.trans (hb4.mono hb03.size)
  clear c0 c1 HX3 HG3 HC3 hb03 hO3 hO4 hb3 hb4
  have c0 := HX4.out.cell 0
  have c1 := HX4.out.cell 1
  go_wp2_with fail
  refine (same_any _ _ R R _ (HO4.out.slr ic_len) (HW4.out.slr ic_len) hlo hlo).mono ?_
  rintro e w5 ⟨rfl, hb5⟩
  rw [eqB_self]
  have HX5 := hide (HX4.out.up hb5)
  have HG5 := hide (HG4.out.up hb5)
  have HC5 := hide (HC4.out.below hb5)
  have HO5 := hide (HO4.out.below hb5)
  have HW5 := hide (HW4.out.below hb5)
  have hb05 := hb04.trans (hb5.mono hb04.size)
  clear c0 c1 HX4 HG4 HC4 HO4 HW4 hb04 hb5
  have c0 := HX5.out.cell 0
  have c1 := HX5.out.cell 1
  go_wp2_with fail
  refine (specValid_any _ g _ HG5.out hn).mono ?_
  rintro e w6 ⟨rfl, hb6⟩
  have HX6 := hide (HX5.out.up hb6)
  have HG6 := hide (HG5.out.up hb6)
  have HC6 := hide (HC5.out.below hb6)
  have HO6 := hide (HO5.out.below hb6)
  have HW6 := hide (HW5.out.below hb6)
  have hb06 := hb05.trans (hb6.mono hb05.size)
  clear c0 c1 HX5 HG5 HC5 HO5 HW5 hb05 hb6
  have c0 := HX6.out.cell 0
  have c1 := HX6.out.cell 1
  by_cases hV' : ¬ GV g
  · rw [tb_no hV']
    clear hV'
    go_wp2_with fail
    refine (same_any _ _ R R _ (HO6.out.slr ic_len) (HW6.out.slr ic_len) hlo hlo).mono ?_
    rintro e wz ⟨rfl, hbz⟩
    rw [eqB_self]
    go_wp2
    go_ret
    exact ⟨rfl, hb06.trans (hbz.mono hb06.size)⟩
  have hV : GV g := Classical.not_not.1 hV'
  clear hV'
  rw [tb_yes hV]
  obtain ⟨hn1, hn2⟩ := hV.n
  have HV := hide hV
  clear hV
  by_cases hk0 : f < 0
  · go_wp2_with fail
    refine (same_any _ _ R R _ (HO6.out.slr ic_len) (HW6.out.slr ic_len) hlo hlo).mono ?_
    rintro e wz ⟨rfl, hbz⟩
    rw [eqB_self]
    go_wp2
    go_ret
    exact ⟨rfl, hb06.trans (hbz.mono hb06.size)⟩
  by_cases hkn : (g.ls.length : Int) ≤ f
  · go_wp2_with fail
    refine (same_any _ _ R R _ (HO6.out.slr ic_len) (HW6.out.slr ic_len) hlo hlo).mono ?_
    rintro e wz ⟨rfl, hbz⟩
    rw [eqB_self]
    go_wp2
    go_ret
    exact ⟨rfl, hb06.trans (hbz.mono hb06.size)⟩
  by_cases hf0 : k < 0
  · go_wp2_with fail
    refine (same_any _ _ R R _ (HO6.out.slr ic_len) (HW6.out.slr ic_len) hlo hlo).mono ?_
    rintro e wz ⟨rfl, hbz⟩
    rw [eqB_self]
    go_wp2
    go_ret
    exact ⟨rfl, hb06.trans (hbz.mono hb06.size)⟩
  by_cases hfn : g.n ≤ k
  · go_wp2_with fail
    refine (same_any _ _ R R _ (HO6.out.slr ic_len) (HW6.out.slr ic_len) hlo hlo).mono ?_
    rintro e wz ⟨rfl, hbz⟩
    rw [eqB_self]
    go_wp2
    go_ret
    exact ⟨rfl, hb06.trans (hbz.mono hb06.size)⟩
  have HK : Hid (Ok g k f) := hide ⟨HV.out, ⟨by omega, by omega⟩, by omega, by omega⟩
  go_wp2_with fail
  refine (repairSafe_any _ g k f _ HG6.out hn).mono ?_
  rintro e w7 ⟨y7, rfl, hO7, hb7⟩
  obtain ⟨B, hB⟩ : ∃ B, B = safeL g k f := ⟨_, rfl⟩
  have hBl : B.length ≤ 8 := by rw [hB]; exact safeL_len g k f
  rw [← hB] at hO7
  obtain ⟨A7, k7, rfl, _, _⟩ := hO7.lit
  have HBO := hide hO7
  have HYES : Hid (∀ x, x ∈ B → x ∈ R) := hide fun x hx => by
    rw [hB] at hx
    rw [← HR.out]
    exact safe_arr HK.out hx
  have HTO : Hid (k ∈ R) := hide (by rw [← HR.out, arrX_mem HK.out]; exact ⟨HK.out.2.2, .here⟩)
  have HX7 := hide (HX6.out.up hb7)
  have HG7 := hide (HG6.out.up hb7)
  have HC7 := hide (HC6.out.below hb7)
  have HO7 := hide (HO6.out.below hb7)
  have HW7 := hide (HW6.out.below hb7)
  have hb07 := hb06.trans (hb7.mono hb06.size)
  clear c0 c1 HX6 HG6 HC6 HO6 HW6 hb06 hb7
  have c0 := HX7.out.cell 0
  have c1 := HX7.out.cell 1
  clear hO7 hB c0 c1
  go_wp2
  go_loopg [10] (B.length) (fun gg iv wr => ∃ i : Nat, i + gg = B.length ∧ iv = .int .i64 i ∧ Below w7.heap.size w7 wr)
  case atStart => exact ⟨0, by omega, rfl, Below.refl _ _⟩
  case round =>
    obtain ⟨i, hi, rfl, hbe⟩ := hrel
    have HOe := hide (HO7.out.below hbe)
    by_cases hlt : i < B.length
    · obtain ⟨x, hx⟩ := get_some hlt
      have hxm := HYES.out x (List.mem_of_getElem? hx)
      have hP := HBO.out.below hbe
      obtain ⟨o7, k7', he, _, _⟩ := hP.form (by omega)
      obtain ⟨rfl, rfl⟩ : A7 = some ⟨o7, 0, none⟩ ∧ k7 = k7' := by
        injection he with h1 h2 h3
        exact ⟨h1, h3⟩
      have xm := own_int hP hx
      have HXM := hide hxm
      clear he hx hxm hP
      go_wp2_with fail
      refine (hasInt_any _ R x _ (HOe.out.slr ic_len) hlo).mono ?_
      rintro e w8 ⟨rfl, hb8⟩
      rw [tb_yes HXM.out]
      have hbe8 := hbe.trans (hb8.mono hbe.size)
      clear xm hb8 HOe
      go_wp2
      go_roundg (gk - 1)
      case measure => omega
      case rel => exact ⟨i + 1, by omega, by go_num, hbe8⟩
    · go_wp2_with fail
      refine (hasInt_any _ R k _ (HOe.out.slr ic_len) hlo).mono ?_
      rintro e w8 ⟨rfl, hb8⟩
      rw [tb_yes HTO.out]
      go_wp2
      go_ret
      exact ⟨rfl, hb07.trans ((hbe.trans (hb8.mono hbe.size)).mono hb07.size)⟩

/-- Some of the first i of L is in R. -/
def AnyI (R L : List Int) (i : Nat) : Prop := ∃ m, m ∈ L.take i ∧ m ∈ R
theorem anyI_start (R L : List Int) : tb (AnyI R L 0) = false := tb_no fun ⟨m, h, _⟩ => by simp at h
theorem anyI_yes {R L : List Int} {i : Nat} (h : tb (AnyI R L i) = true) : tb (AnyI R L (i + 1)) = true := by
  obtain ⟨m, h1, h2⟩ := tb_spec h
  exact tb_yes ⟨m, List.take_subset_take_left _ (by omega) h1, h2⟩
theorem anyI_no {R L : List Int} {i : Nat} {m : Int} (h : tb (AnyI R L i) = false) (hm : L[i]? = some m) : tb (AnyI R L (i + 1)) = tb (m ∈ R) := by
  apply tb_iff
  unfold AnyI
  rw [List.take_add_one, hm]
  simp only [Option.toList_some, List.mem_append, List.mem_singleton]
  constructor
  · rintro ⟨z, hz | hz, h2⟩
    · have : tb (AnyI R L i) = true := tb_yes ⟨z, hz, h2⟩
      rw [h] at this
      cases this
    · rw [← hz]; exact h2
  · intro h1
    exact ⟨m, .inr rfl, h1⟩
theorem loop_on {g : Gr} {f k n : Int} {ch : List Int} (hK : Ok g k f) (hn : Nd g n) {i : Nat} (hi : (mixX g f k ch n).length ≤ i) : tb (AnyI (loopX g f k ch) (mixX g f k ch n) i) = tb (n ∈ loopX g f k ch) := by
  have hgn := hK.1.n
  have hx := hn
  unfold Nd at hx
  have hok : Ok g n f ∧ Nd g k := ⟨⟨hK.1, hK.2.1, hn⟩, hK.2.2⟩
  apply tb_iff
  unfold AnyI
  rw [List.take_of_length_le hi, mixX, okL_yes hok, loopX_mem hK, stp_more (fun x m => mixR_in hK.1 x m) (show 0 ≤ n ∧ n < (g.n.toNat : Int) by omega)]
  constructor
  · rintro ⟨m, h1, h2⟩
    exact ⟨hn, m, h1, ((loopX_mem hK).1 h2).2⟩
  · rintro ⟨_, m, h1, h2⟩
    have h3 := mixR_in hK.1 n m h1
    exact ⟨m, h1, (loopX_mem hK).2 ⟨⟨by omega, by omega⟩, h2⟩⟩
set_option maxRecDepth 100000 in
set_option maxHeartbeats 1600000 in
theorem lawLoopNodes (v : Value) (bs : List Int) (w : World) (hv : SlR bc 1 w w.heap.size v bs) (hm : bs.length ≤ 9223372036854775807 ∧ ∀ n ∈ bs, 0 ≤ n ∧ n ≤ 255) :
    Calls Try.prog 12 #[v] w fun e w' => e = .returned (.bool true) ∧ Below w.heap.size w w' := by
  by_cases hl : 1048576 < bs.length
  · obtain ⟨A, cap, rfl, hc, hr⟩ := hv
    clear hr hm
    go_enter Try.func12, Try.ntmps12
    go_wp2
    go_ret
    exact ⟨rfl, Below.refl _ _⟩
  have hvv := hv
  obtain ⟨A, cap, rfl, hc, hr⟩ := hvv
  have HM := hide hm
  clear hm hr hc
  go_enter Try.func12, Try.ntmps12
  go_wp2_with fail
  refine (drawML_any _ bs _ hv HM.out).mono ?_
  rintro e w1 ⟨x1, cv, g, f, k, ch, rfl, hO1, hl15, hC1, hlc, hb1⟩
  obtain ⟨Ag, cg, rfl⟩ := hO1.lit
  obtain ⟨Ac, kc, rfl, _, _⟩ := hC1.lit
  obtain ⟨X, hX⟩ : ∃ X, X = w1.heap.size := ⟨_, rfl⟩
  obtain ⟨w2, hw2⟩ : ∃ w2, w2 = w1.alloc (Obj.cells #[.int .i64 g.n, .slice Ag g.ls.length cg] 25) := ⟨_, rfl⟩
  have h12 : Below w1.heap.size w1 w2 := by rw [hw2]; exact below1 _ _
  have HX2 := hide (show Blk w2 X 25 #[.int .i64 g.n, .slice Ag g.ls.length cg] from by rw [hw2, hX]; exact Blk.new _ _ _)
  have HG2 := hide (hO1.grr.up h12)
  have HC2 := hide (hC1.below h12)
  have hb2 := hb1.trans (h12.mono hb1.size)
  have hn : g.ls.length ≤ 1048576 := by omega
  have hlc' : ch.length ≤ 1048576 := by omega
  have c0 := HX2.out.cell 0
  have c1 := HX2.out.cell 1
  clear hO1 hC1 hb1 h12 HM
  go_upto_region 4 with fail
  rw [← hw2, ← hX]
  clear hw2 hX
  obtain ⟨R, hR⟩ : ∃ R, loopX g f k ch = R := ⟨_, rfl⟩
  have HR := hide hR
  have hlo : R.length ≤ 1048576 := by rw [← hR]; exact Nat.le_trans (loopX_len _ _ _ _) (by decide)
  clear hR
  go_wp2_with fail
  refine (mixedLoop_any _ _ g f k ch _ HG2.out hn (HC2.out.slr ic_len) hlc').mono ?_
  rintro e w3 ⟨y3, rfl, hO3, hb3⟩
  rw [HR.out] at hO3
  obtain ⟨A3, k3, rfl, _, _⟩ := hO3.lit
  have HX3 := hide (HX2.out.up hb3)
  have HG3 := hide (HG2.out.up hb3)
  have HC3 := hide (HC2.out.below hb3)
  have hb03 := hb2.trans (hb3.mono hb2.size)
  clear c0 c1 HX2 HG2 HC2 hb2
  have c0 := HX3.out.cell 0
  have c1 := HX3.out.cell 1
  go_wp2_with fail
  refine (specLoop_any _ _ g f k ch _ HG3.out hn (HC3.out.slr ic_len) hlc').mono ?_
  rintro e w4 ⟨y4, rfl, hO4, hb4⟩
  rw [HR.out] at hO4
  obtain ⟨A4, k4, rfl, _, _⟩ := hO4.lit
  have HX4 := hide (HX3.out.up hb4)
  have HG4 := hide (HG3.out.up hb4)
  have HC4 := hide (HC3.out.below hb4)
  have HO4 := hide (hO3.below hb4)
  have HW4 := hide hO4
  have hb04 := hb03.trans (hb4.mono hb03.size)
  clear c0 c1 HX3 HG3 HC3 hb03 hO3 hO4 hb3 hb4
  have c0 := HX4.out.cell 0
  have c1 := HX4.out.cell 1
  go_wp2_with fail
  refine (same_any _ _ R R _ (HO4.out.slr ic_len) (HW4.out.slr ic_len) hlo hlo).mono ?_
  rintro e w5 ⟨rfl, hb5⟩
  rw [eqB_self]
  have HX5 := hide (HX4.out.up hb5)
  have HG5 := hide (HG4.out.up hb5)
  have HC5 := hide (HC4.out.below hb5)
  have HO5 := hide (HO4.out.below hb5)
  have HW5 := hide (HW4.out.below hb5)
  have hb05 := hb04.trans (hb5.mono hb04.size)
  clear c0 c1 HX4 HG4 HC4 HO4 HW4 hb04 hb5
  have c0 := HX5.out.cell 0
  have c1 := HX5.out.cell 1
  go_wp2_with fail
  refine (specValid_any _ g _ HG5.out hn).mono ?_
  rintro e w6 ⟨rfl, hb6⟩
  have HX6 := hide (HX5.out.up hb6)
  have HG6 := hide (HG5.out.up hb6)
  have HC6 := hide (HC5.out.below hb6)
  have HO6 := hide (HO5.out.below hb6)
  have HW6 := hide (HW5.out.below hb6)
  have hb06 := hb05.trans (hb6.mono hb05.size)
  clear c0 c1 HX5 HG5 HC5 HO5 HW5 hb05 hb6
  have c0 := HX6.out.cell 0
  have c1 := HX6.out.cell 1
  by_cases hV' : ¬ GV g
  · rw [tb_no hV']
    clear hV'
    go_wp2_with fail
    refine (same_any _ _ R R _ (HO6.out.slr ic_len) (HW6.out.slr ic_len) hlo hlo).mono ?_
    rintro e wz ⟨rfl, hbz⟩
    rw [eqB_self]
    go_wp2
    go_ret
    exact ⟨rfl, hb06.trans (hbz.mono hb06.size)⟩
  have hV : GV g := Classical.not_not.1 hV'
  clear hV'
  rw [tb_yes hV]
  obtain ⟨hn1, hn2⟩ := hV.n
  have HV := hide hV
  clear hV
  by_cases hk0 : f < 0
  · go_wp2_with fail
    refine (same_any _ _ R R _ (HO6.out.slr ic_len) (HW6.out.slr ic_len) hlo hlo).mono ?_
    rintro e wz ⟨rfl, hbz⟩
    rw [eqB_self]
    go_wp2
    go_ret
    exact ⟨rfl, hb06.trans (hbz.mono hb06.size)⟩
  by_cases hkn : (g.ls.length : Int) ≤ f
  · go_wp2_with fail
    refine (same_any _ _ R R _ (HO6.out.slr ic_len) (HW6.out.slr ic_len) hlo hlo).mono ?_
    rintro e wz ⟨rfl, hbz⟩
    rw [eqB_self]
    go_wp2
    go_ret
    exact ⟨rfl, hb06.trans (hbz.mono hb06.size)⟩
  by_cases hf0 : k < 0
  · go_wp2_with fail
    refine (same_any _ _ R R _ (HO6.out.slr ic_len) (HW6.out.slr ic_len) hlo hlo).mono ?_
    rintro e wz ⟨rfl, hbz⟩
    rw [eqB_self]
    go_wp2
    go_ret
    exact ⟨rfl, hb06.trans (hbz.mono hb06.size)⟩
  by_cases hfn : g.n ≤ k
  · go_wp2_with fail
    refine (same_any _ _ R R _ (HO6.out.slr ic_len) (HW6.out.slr ic_len) hlo hlo).mono ?_
    rintro e wz ⟨rfl, hbz⟩
    rw [eqB_self]
    go_wp2
    go_ret
    exact ⟨rfl, hb06.trans (hbz.mono hb06.size)⟩
  have HK : Hid (Ok g k f) := hide ⟨HV.out, ⟨by omega, by omega⟩, by omega, by omega⟩
  obtain ⟨N, hN⟩ : ∃ N : Nat, N = g.n.toNat := ⟨_, rfl⟩
  have hNa : (N : Int) ≤ g.n := by omega
  have hNb : g.n ≤ (N : Int) := by omega
  clear hN HW6
  go_wp2
  clear c0 c1
  go_loopg [9] (N) (fun gg iv wr => ∃ n : Nat, n + gg = N ∧ iv = .int .i64 n ∧ Below w6.heap.size w6 wr)
  case atStart => exact ⟨0, by omega, rfl, Below.refl _ _⟩
  case round =>
    obtain ⟨n, hnn, rfl, hbe⟩ := hrel
    have c0 := (HX6.out.up hbe).cell 0
    have c1 := (HX6.out.up hbe).cell 1
    by_cases hlt : (n : Int) < g.n
    · obtain ⟨fa, rfl⟩ : ∃ fa, gk = fa + 1 := ⟨gk - 1, by omega⟩
      have HND : Hid (Nd g (n : Int)) := hide ⟨by omega, hlt⟩
      go_wp2_with fail
      refine (mixedHopsX_any _ _ g f k (n : Int) ch _ (HG6.out.up hbe) hn ((HC6.out.below hbe).slr ic_len) hlc').mono ?_
      rintro e w7 ⟨y7, rfl, hO7, hb7⟩
      have HON := hide (fun (i : Nat) => loop_on (ch := ch) (i := i) HK.out HND.out)
      obtain ⟨L, hL⟩ : ∃ L, L = mixX g f k ch (n : Int) := ⟨_, rfl⟩
      have hLl : L.length ≤ 8 := by rw [hL]; exact mixX_len _ _ _ _ _
      rw [← hL] at hO7 HON
      rw [HR.out] at HON
      obtain ⟨A7, k7, rfl, _, _⟩ := hO7.lit
      have HP7 := hide hO7
      have hbe7 := hbe.trans (hb7.mono hbe.size)
      clear hL hO7 hb7 hbe c0 c1
      go_wp2
      go_loopg [11, 12] (L.length) (fun gg ov iv wr => ∃ (i : Nat) (ob : Bool), i + gg = L.length ∧ ov = .bool ob ∧ iv = .int .i64 i ∧ Below w7.heap.size w7 wr ∧ Hid (tb (AnyI R L i) = ob))
      case atStart => exact ⟨0, false, by omega, rfl, rfl, Below.refl _ _, hide (anyI_start _ _)⟩
      case round =>
        obtain ⟨i, ob, hi, rfl, rfl, hbi, HAB⟩ := hrel
        have hbei := hbe7.trans (hbi.mono hbe7.size)
        have HOi := hide (HO6.out.below hbei)
        by_cases hil : i < L.length
        · cases ob with
          | true =>
            have HAB2 := hide (anyI_yes HAB.out)
            go_wp2
            go_roundg (gk - 1)
            case measure => omega
            case rel => exact ⟨i + 1, true, by omega, rfl, by go_num, hbi, HAB2⟩
          | false =>
            obtain ⟨m, hm'⟩ := get_some hil
            have hP := HP7.out.below hbi
            obtain ⟨o7, k7', he, _, _⟩ := hP.form (by omega)
            obtain ⟨rfl, rfl⟩ : A7 = some ⟨o7, 0, none⟩ ∧ k7 = k7' := by
              injection he with h1 h2 h3
              exact ⟨h1, h3⟩
            have xm := own_int hP hm'
            have hcon := hasInt_any _ R m wr (HOi.out.slr ic_len) hlo
            obtain ⟨b, hb⟩ : ∃ b, tb (m ∈ R) = b := ⟨_, rfl⟩
            rw [hb] at hcon
            have HAB2 := hide ((anyI_no HAB.out hm').trans hb)
            have HCON := hide hcon
            clear he hm' hP hcon hb HAB
            go_wp2_with fail
            refine HCON.out.mono ?_
            rintro e w8 ⟨rfl, hb8⟩
            have hbi8 := hbi.trans (hb8.mono hbi.size)
            clear xm hb8 HCON
            go_wp2
            go_roundg (gk - 1)
            case measure => omega
            case rel => exact ⟨i + 1, b, by omega, rfl, by go_num, hbi8, HAB2⟩
        · have hcon := hasInt_any _ R (n : Int) wr (HOi.out.slr ic_len) hlo
          have hbb : tb ((n : Int) ∈ R) = ob := by rw [← HAB.out]; exact (HON.out i (by omega)).symm
          rw [hbb] at hcon
          have HCON := hide hcon
          have n1 : (ob != ob) = false := by simp
          clear hcon hbb HAB
          go_wp2_with fail
          refine HCON.out.mono ?_
          rintro e w8 ⟨rfl, hb8⟩
          have hbe8 := hbei.trans (hb8.mono hbei.size)
          clear HCON hb8
          go_wp2
          go_roundg fa
          case measure => omega
          case rel => exact ⟨n + 1, by omega, by go_num, hbe8⟩
    · go_wp2
      go_ret
      exact ⟨rfl, hb06.trans (hbe.mono hb06.size)⟩

theorem mixX_unused {g : Gr} {f k n : Int} {ch : List Int} (hK : Ok g k f) (hn : Nd g n) (hu : ¬ Us g (lkOf g f) n k) : hopX (Wo g f.toNat) n k = hopX g n k ∧ mixX g f k ch n = hopX g n k := by
  have hl := lk_at hK.2.1
  rw [hopX, okL_yes ⟨wo_gv hK.1 _, wo_nd.2 hn, wo_nd.2 hK.2.2⟩, hopX, okL_yes ⟨hK.1, hn, hK.2.2⟩, mixX, okL_yes ⟨⟨hK.1, hK.2.1, hn⟩, hK.2.2⟩]
  exact ⟨hopL_unused hK.1 hl hK.2.2 hn hu, mix_unused hK.1 hl hK.2.2 hn hu⟩
set_option maxRecDepth 100000 in
set_option maxHeartbeats 1600000 in
theorem lawMixedUnused (v : Value) (bs : List Int) (w : World) (hv : SlR bc 1 w w.heap.size v bs) (hm : bs.length ≤ 9223372036854775807 ∧ ∀ n ∈ bs, 0 ≤ n ∧ n ≤ 255) :
    Calls Try.prog 8 #[v] w fun e w' => e = .returned (.bool true) ∧ Below w.heap.size w w' := by
  by_cases hl : 1048576 < bs.length
  · obtain ⟨A, cap, rfl, hc, hr⟩ := hv
    clear hr hm
    go_enter Try.func8, Try.ntmps8
    go_wp2
    go_ret
    exact ⟨rfl, Below.refl _ _⟩
  have hvv := hv
  obtain ⟨A, cap, rfl, hc, hr⟩ := hvv
  have HM := hide hm
  clear hm hr hc
  go_enter Try.func8, Try.ntmps8
  go_wp2_with fail
  refine (drawMH_any _ bs _ hv HM.out).mono ?_
  rintro e w1 ⟨x1, cv, g, f, k, n, ch, rfl, hO1, hl15, hC1, hlc, hb1⟩
  obtain ⟨Ag, cg, rfl⟩ := hO1.lit
  obtain ⟨Ac, kc, rfl, _, _⟩ := hC1.lit
  obtain ⟨X, hX⟩ : ∃ X, X = w1.heap.size := ⟨_, rfl⟩
  obtain ⟨w2, hw2⟩ : ∃ w2, w2 = w1.alloc (Obj.cells #[.int .i64 g.n, .slice Ag g.ls.length cg] 25) := ⟨_, rfl⟩
  have h12 : Below w1.heap.size w1 w2 := by rw [hw2]; exact below1 _ _
  have HX2 := hide (show Blk w2 X 25 #[.int .i64 g.n, .slice Ag g.ls.length cg] from by rw [hw2, hX]; exact Blk.new _ _ _)
  have HG2 := hide (hO1.grr.up h12)
  have HC2 := hide (hC1.below h12)
  have hb2 := hb1.trans (h12.mono hb1.size)
  have hn : g.ls.length ≤ 1048576 := by omega
  have hlc' : ch.length ≤ 1048576 := by omega
  have c0 := HX2.out.cell 0
  have c1 := HX2.out.cell 1
  clear hO1 hC1 hb1 h12 HM
  go_upto_region 4 with fail
  rw [← hw2, ← hX]
  clear hw2 hX
  obtain ⟨R, hR⟩ : ∃ R, mixX g f k ch n = R := ⟨_, rfl⟩
  have HR := hide hR
  have hlo : R.length ≤ 1048576 := by rw [← hR]; exact Nat.le_trans (mixX_len _ _ _ _ _) (by decide)
  clear hR
  go_wp2_with fail
  refine (mixedHopsX_any _ _ g f k n ch _ HG2.out hn (HC2.out.slr ic_len) hlc').mono ?_
  rintro e w3 ⟨y3, rfl, hO3, hb3⟩
  rw [HR.out] at hO3
  obtain ⟨A3, k3, rfl, _, _⟩ := hO3.lit
  have HX3 := hide (HX2.out.up hb3)
  have HG3 := hide (HG2.out.up hb3)
  have HC3 := hide (HC2.out.below hb3)
  have hb03 := hb2.trans (hb3.mono hb2.size)
  clear c0 c1 HX2 HG2 HC2 hb2
  have c0 := HX3.out.cell 0
  have c1 := HX3.out.cell 1
  go_wp2_with fail
  refine (specMixed_any _ _ g f k n ch _ HG3.out hn (HC3.out.slr ic_len) hlc').mono ?_
  rintro e w4 ⟨y4, rfl, hO4, hb4⟩
  rw [HR.out] at hO4
  obtain ⟨A4, k4, rfl, _, _⟩ := hO4.lit
  have HX4 := hide (HX3.out.up hb4)
  have HG4 := hide (HG3.out.up hb4)
  have HC4 := hide (HC3.out.below hb4)
  have HO4 := hide (hO3.below hb4)
  have HW4 := hide hO4
  have hb04 := hb03.trans (hb4.mono hb03.size)
  clear c0 c1 HX3 HG3 HC3 hb03 hO3 hO4 hb3 hb4
  have c0 := HX4.out.cell 0
  have c1 := HX4.out.cell 1
  go_wp2_with fail
  refine (same_any _ _ R R _ (HO4.out.slr ic_len) (HW4.out.slr ic_len) hlo hlo).mono ?_
  rintro e w5 ⟨rfl, hb5⟩
  rw [eqB_self]
  have HX5 := hide (HX4.out.up hb5)
  have HG5 := hide (HG4.out.up hb5)
  have HC5 := hide (HC4.out.below hb5)
  have HO5 := hide (HO4.out.below hb5)
  have HW5 := hide (HW4.out.below hb5)
  have hb05 := hb04.trans (hb5.mono hb04.size)
  clear c0 c1 HX4 HG4 HC4 HO4 HW4 hb04 hb5
  have c0 := HX5.out.cell 0
  have c1 := HX5.out.cell 1
  go_wp2_with fail
  refine (specValid_any _ g _ HG5.out hn).mono ?_
  rintro e w6 ⟨rfl, hb6⟩
  have HX6 := hide (HX5.out.up hb6)
  have HG6 := hide (HG5.out.up hb6)
  have HC6 := hide (HC5.out.below hb6)
  have HO6 := hide (HO5.out.below hb6)
  have HW6 := hide (HW5.out.below hb6)
  have hb06 := hb05.trans (hb6.mono hb05.size)
  clear c0 c1 HX5 HG5 HC5 HO5 HW5 hb05 hb6
  have c0 := HX6.out.cell 0
  have c1 := HX6.out.cell 1
  by_cases hV' : ¬ GV g
  · rw [tb_no hV']
    clear hV'
    go_wp2_with fail
    refine (same_any _ _ R R _ (HO6.out.slr ic_len) (HW6.out.slr ic_len) hlo hlo).mono ?_
    rintro e wz ⟨rfl, hbz⟩
    rw [eqB_self]
    go_wp2
    go_ret
    exact ⟨rfl, hb06.trans (hbz.mono hb06.size)⟩
  have hV : GV g := Classical.not_not.1 hV'
  clear hV'
  rw [tb_yes hV]
  obtain ⟨hn1, hn2⟩ := hV.n
  have HV := hide hV
  clear hV
  by_cases hk0 : f < 0
  · go_wp2_with fail
    refine (same_any _ _ R R _ (HO6.out.slr ic_len) (HW6.out.slr ic_len) hlo hlo).mono ?_
    rintro e wz ⟨rfl, hbz⟩
    rw [eqB_self]
    go_wp2
    go_ret
    exact ⟨rfl, hb06.trans (hbz.mono hb06.size)⟩
  by_cases hkn : (g.ls.length : Int) ≤ f
  · go_wp2_with fail
    refine (same_any _ _ R R _ (HO6.out.slr ic_len) (HW6.out.slr ic_len) hlo hlo).mono ?_
    rintro e wz ⟨rfl, hbz⟩
    rw [eqB_self]
    go_wp2
    go_ret
    exact ⟨rfl, hb06.trans (hbz.mono hb06.size)⟩
  by_cases hf0 : k < 0
  · go_wp2_with fail
    refine (same_any _ _ R R _ (HO6.out.slr ic_len) (HW6.out.slr ic_len) hlo hlo).mono ?_
    rintro e wz ⟨rfl, hbz⟩
    rw [eqB_self]
    go_wp2
    go_ret
    exact ⟨rfl, hb06.trans (hbz.mono hb06.size)⟩
  by_cases hfn : g.n ≤ k
  · go_wp2_with fail
    refine (same_any _ _ R R _ (HO6.out.slr ic_len) (HW6.out.slr ic_len) hlo hlo).mono ?_
    rintro e wz ⟨rfl, hbz⟩
    rw [eqB_self]
    go_wp2
    go_ret
    exact ⟨rfl, hb06.trans (hbz.mono hb06.size)⟩
  have HK : Hid (Ok g k f) := hide ⟨HV.out, ⟨by omega, by omega⟩, by omega, by omega⟩
  by_cases hx0 : n < 0
  · go_wp2_with fail
    refine (same_any _ _ R R _ (HO6.out.slr ic_len) (HW6.out.slr ic_len) hlo hlo).mono ?_
    rintro e wz ⟨rfl, hbz⟩
    rw [eqB_self]
    go_wp2
    go_ret
    exact ⟨rfl, hb06.trans (hbz.mono hb06.size)⟩
  by_cases hxn : g.n ≤ n
  · go_wp2_with fail
    refine (same_any _ _ R R _ (HO6.out.slr ic_len) (HW6.out.slr ic_len) hlo hlo).mono ?_
    rintro e wz ⟨rfl, hbz⟩
    rw [eqB_self]
    go_wp2
    go_ret
    exact ⟨rfl, hb06.trans (hbz.mono hb06.size)⟩
  have HND : Hid (Nd g n) := hide ⟨by omega, by omega⟩
  have hok : GV g ∧ Ix g f := ⟨HK.out.1, HK.out.2.1⟩
  go_wp2_with fail
  refine (without_any _ g f _ HG6.out hn).mono ?_
  rintro e w7 ⟨v7, rfl, hO7, hb7⟩
  rw [woX_yes hok] at hO7
  rw [tb_yes hok]
  obtain ⟨G, hG⟩ : ∃ G, G = Wo g f.toNat := ⟨_, rfl⟩
  have hGl : G.ls.length ≤ 1048576 := by rw [hG]; exact Nat.le_trans (List.length_eraseIdx_le _ _) hn
  have HGE := hide hG
  rw [← hG] at hO7
  obtain ⟨A7, c7, rfl⟩ := hO7.lit
  have h78 := below1 w7 (Obj.cells #[.int .i64 G.n, .slice A7 G.ls.length c7] 25)
  have hb07 := hb06.trans (hb7.mono hb06.size)
  have hb08 := hb07.trans (h78.mono hb07.size)
  have HX8 := hide ((HX6.out.up hb7).up h78)
  have HG8 := hide ((HG6.out.up hb7).up h78)
  have HO8 := hide ((HO6.out.below hb7).below h78)
  have HGG := hide (hO7.grr.up h78)
  have HY8 := hide (Blk.new w7 25 #[.int .i64 G.n, .slice A7 G.ls.length c7])
  obtain ⟨Y, hY⟩ : ∃ Y, Y = w7.heap.size := ⟨_, rfl⟩
  obtain ⟨w8, hw8⟩ : ∃ w8, w8 = w7.alloc (Obj.cells #[.int .i64 G.n, .slice A7 G.ls.length c7] 25) := ⟨_, rfl⟩
  rw [← hw8] at hb08 HX8 HG8 HO8 HGG HY8
  rw [← hY] at HY8
  clear c0 c1 HX6 HG6 HC6 HO6 HW6 hb06 hb7 hb07 h78 hO7 hG
  go_upto_region 9 with fail
  rw [← hw8, ← hY]
  clear hw8 hY
  have hd8 := (Below.refl w8.heap.size w8).drew
  have HC : Hid (∀ W, Below w8.heap.size w8 W → W.cell? ⟨X, 0, none⟩ = some (.int .i64 g.n) ∧ W.cell? ⟨X, 1, none⟩ = some (.slice Ag g.ls.length cg) ∧ W.cell? ⟨Y, 0, none⟩ = some (.int .i64 G.n) ∧ W.cell? ⟨Y, 1, none⟩ = some (.slice A7 G.ls.length c7)) :=
    hide fun W hW => ⟨(HX8.out.up hW).cell 0, (HX8.out.up hW).cell 1, (HY8.out.up hW).cell 0, (HY8.out.up hW).cell 1⟩
  by_cases hu : Us g (lkOf g f) n k
  · have HLU := hide (fun W (hW : Below w8.heap.size w8 W) => linkUsedX_any _ g n k f W (HG8.out.up hW) hn)
    rw [tb_yes ⟨⟨HK.out.1, HK.out.2.1, HND.out, HK.out.2.2⟩, hu⟩] at HLU
    clear hu
    obtain ⟨d0, d1, d2, d3⟩ := HC.out w8 (Below.refl _ _)
    have e0 := fun y => wext_cell w8 y d0
    have e1 := fun y => wext_cell w8 y d1
    have HE := hide (fun y => HLU.out (wext w8 y) (wext_below w8 y))
    clear d0 d1 d2 d3 hd8
    refine region_q (by kernel_rfl) (by kernel_rfl) ?_
    repeat (go_big_quiet_step ((first | (go_at_call 38; with_reducible exact q_call (HE.out _)))))
    refine wpQuiet_nil ?_
    intro wx hbx
    clear e0 e1
    go_wp2
    go_ret
    exact ⟨rfl, hb08.trans (hbx.mono hb08.size)⟩
  · have HLU := hide (fun W (hW : Below w8.heap.size w8 W) => linkUsedX_any _ g n k f W (HG8.out.up hW) hn)
    rw [tb_no fun h => hu h.2] at HLU
    obtain ⟨h1, h2⟩ := mixX_unused (ch := ch) HK.out HND.out hu
    rw [HR.out] at h2
    rw [← h2, ← HGE.out] at h1
    have H1 := hide h1
    have H2 := hide h2.symm
    clear hu h1 h2
    go_region_held3 (fun W => W.cell? ⟨X, 0, none⟩ = some (.int .i64 g.n) ∧ W.cell? ⟨X, 1, none⟩ = some (.slice Ag g.ls.length cg) ∧ W.cell? ⟨Y, 0, none⟩ = some (.int .i64 G.n) ∧ W.cell? ⟨Y, 1, none⟩ = some (.slice A7 G.ls.length c7)) (first | exact HC.out _ hd8 | exact HC.out _ hB9 | exact HC.out _ hB10 | exact HC.out _ hB11 | exact HC.out _ hB12 | exact HC.out _ hB13 | exact HC.out _ hB14 | fail)
      (first
        | (go_at_call 19; refine (same_any _ _ R R _ ((HO8.out.below hB13).slr ic_len) (HO13.out.slr ic_len) hlo hlo).mono ?_
           rintro e w14 ⟨rfl, hb14⟩
           rw [eqB_self]
           have hB14 := hB13.trans (hb14.mono hB13.size))
        | (go_at_call 37; refine (nextHopsX_any _ g n k _ (HG8.out.up hB12) hn).mono ?_
           rintro e w13 ⟨y13, rfl, hO13, hb13⟩
           rw [H2.out] at hO13
           obtain ⟨A13, k13, rfl, _, _⟩ := hO13.lit
           have HO13 := hide hO13
           have hB13 := hB12.trans (hb13.mono hB12.size))
        | (go_at_call 19; refine (same_any _ _ R R _ (HO10.out.slr ic_len) (HO11.out.slr ic_len) hlo hlo).mono ?_
           rintro e w12 ⟨rfl, hb12⟩
           rw [eqB_self]
           have hB12 := hB11.trans (hb12.mono hB11.size))
        | (go_at_call 37; refine (nextHopsX_any _ g n k _ (HG8.out.up hB10) hn).mono ?_
           rintro e w11 ⟨y11, rfl, hO11, hb11⟩
           rw [H2.out] at hO11
           obtain ⟨A11, k11, rfl, _, _⟩ := hO11.lit
           have HO11 := hide hO11
           have HO10 := hide (hO10.below hb11)
           have hB11 := hB10.trans (hb11.mono hB10.size))
        | (go_at_call 37; refine (nextHopsX_any _ G n k _ (HGG.out.up hB9) hGl).mono ?_
           rintro e w10 ⟨y10, rfl, hO10, hb10⟩
           rw [H1.out] at hO10
           obtain ⟨A10, k10, rfl, _, _⟩ := hO10.lit
           have hB10 := hB9.trans (hb10.mono hB9.size))
        | (go_at_call 38; refine (HLU.out _ hd8).mono ?_
           rintro e w9 ⟨rfl, hb9⟩
           have hB9 := hd8.trans hb9)
        | fail)
    all_goals
      go_wp2
      go_ret
      exact ⟨rfl, hb08.trans (hB14.mono hb08.size)⟩
end Go.Proofs.Ytbhkjeicogjfbaa
