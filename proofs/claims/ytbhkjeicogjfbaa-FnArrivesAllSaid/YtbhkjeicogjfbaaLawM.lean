/- The laws FnNoLoop, FnArrivesMore and FnArrivesAll, walked: they return true for every code. Conditions: none. -/
import Derived.Test.YtbhkjeicogjfbaaDrawM
namespace Go.Proofs.Ytbhkjeicogjfbaa
open Go.RowKit
theorem loop_none {g : Gr} {f k : Int} {R : List Int} (hR : ordX g f k = R) (j : Nat) : loopX g f k (R.take j) = [] := by
  by_cases h : Ok g k f
  · have ho := (ordX_ord h).1
    rw [hR] at ho
    have hn := h.1.n
    rw [loopX, okL_yes h]
    apply List.eq_nil_iff_forall_not_mem.2
    intro x hx
    rw [selTo_mem] at hx
    exact no_loop h.1 (lk_at h.2.1) h.2.2 ho j ⟨hx.1.1, by omega⟩ hx.2
  · rw [loopX, okL_no h]
theorem arrX_len (g : Gr) (k y : Int) (ch : List Int) : (arrX g k y ch).length ≤ 8 := by
  by_cases h : Ok g y k
  · rw [arrX, okL_yes h]
    exact selTo_le _ _ (by have := h.1.n; omega)
  · rw [arrX, okL_no h]; simp
theorem loopX_len (g : Gr) (k y : Int) (ch : List Int) : (loopX g k y ch).length ≤ 8 := by
  by_cases h : Ok g y k
  · rw [loopX, okL_yes h]
    exact selTo_le _ _ (by have := h.1.n; omega)
  · rw [loopX, okL_no h]; simp
theorem arrX_mem {g : Gr} {k y : Int} {ch : List Int} (h : Ok g y k) {x : Int} : x ∈ arrX g k y ch ↔ Nd g x ∧ Arr (mixR g k y ch) y x := by
  have hn := h.1.n
  rw [arrX, okL_yes h, selTo_mem]
  unfold Nd
  constructor
  · rintro ⟨h1, h2⟩; exact ⟨⟨by omega, by omega⟩, h2⟩
  · rintro ⟨h1, h2⟩; exact ⟨⟨by omega, by omega⟩, h2⟩
theorem loopX_mem {g : Gr} {k y : Int} {ch : List Int} (h : Ok g y k) {x : Int} : x ∈ loopX g k y ch ↔ Nd g x ∧ Stp (mixR g k y ch) g.n.toNat x := by
  have hn := h.1.n
  rw [loopX, okL_yes h, selTo_mem]
  unfold Nd
  constructor
  · rintro ⟨h1, h2⟩; exact ⟨⟨by omega, by omega⟩, h2⟩
  · rintro ⟨h1, h2⟩; exact ⟨⟨by omega, by omega⟩, h2⟩
/-- The first j of an order that lies in memory. -/
theorem cut_slr {w : World} {base n cap j : Nat} {A : Option Addr} {L : List Int} (h : Own ic 3 1 w base (.slice A n cap) L) (hn : n = L.length) (hj : j ≤ n) : SlR ic 1 w w.heap.size (.slice A j cap) (L.take j) := by
  subst hn
  exact (h.slr ic_len).take hj
theorem ord_cap {w : World} {base n cap : Nat} {A : Option Addr} {L : List Int} (h : Own ic 3 1 w base (.slice A n cap) L) : n ≤ cap := by
  obtain ⟨A', c', he, h1, _⟩ := h.lit
  injection he with _ h2 h3
  omega
set_option maxRecDepth 100000 in
set_option maxHeartbeats 1600000 in
theorem lawNoLoop (v : Value) (bs : List Int) (v' : Value) (cs : List Int) (w : World) (hv : SlR bc 1 w w.heap.size v bs) (hm : bs.length ≤ 9223372036854775807 ∧ ∀ n ∈ bs, 0 ≤ n ∧ n ≤ 255) (hv' : SlR bc 1 w w.heap.size v' cs) (hm' : cs.length ≤ 9223372036854775807 ∧ ∀ n ∈ cs, 0 ≤ n ∧ n ≤ 255) :
    Calls Try.prog 3 #[v, v'] w fun e w' => e = .returned (.bool true) ∧ Below w.heap.size w w' := by
  have hvv := hv
  obtain ⟨A, cap, rfl, hc, hr⟩ := hvv
  have hvw := hv'
  obtain ⟨A', cap', rfl, hc', hr'⟩ := hvw
  have HM := hide hm
  have HM' := hide hm'
  have hm1 := hm.1
  have hm1' := hm'.1
  clear hm hm' hr hr' hc hc'
  by_cases hl : 1048576 < bs.length
  · go_enter Try.func3, Try.ntmps3
    go_wp2
    go_ret
    exact ⟨rfl, Below.refl _ _⟩
  by_cases hl' : 1048576 < cs.length
  · go_enter Try.func3, Try.ntmps3
    go_wp2
    go_ret
    exact ⟨rfl, Below.refl _ _⟩
  go_enter Try.func3, Try.ntmps3
  go_wp2_with fail
  refine (drawUO_any _ bs _ hv HM.out).mono ?_
  rintro e w1 ⟨x1, g, f, k, rfl, hO1, hl15, hb1⟩
  obtain ⟨Ag, cg, rfl⟩ := hO1.lit
  obtain ⟨X, hX⟩ : ∃ X, X = w1.heap.size := ⟨_, rfl⟩
  obtain ⟨w2, hw2⟩ : ∃ w2, w2 = w1.alloc (Obj.cells #[.int .i64 g.n, .slice Ag g.ls.length cg] 25) := ⟨_, rfl⟩
  have h12 : Below w1.heap.size w1 w2 := by rw [hw2]; exact below1 _ _
  have HX2 := hide (show Blk w2 X 25 #[.int .i64 g.n, .slice Ag g.ls.length cg] from by rw [hw2, hX]; exact Blk.new _ _ _)
  have HG2 := hide (hO1.grr.up h12)
  have hb2 := hb1.trans (h12.mono hb1.size)
  have hn : g.ls.length ≤ 1048576 := by omega
  have c0 := HX2.out.cell 0
  have c1 := HX2.out.cell 1
  clear hO1 hb1 h12 HM
  go_upto_region 4 with fail
  rw [← hw2, ← hX]
  clear hw2 hX
  obtain ⟨R, hR⟩ : ∃ R, ordX g f k = R := ⟨_, rfl⟩
  have HR := hide hR
  have hlo : R.length ≤ 1048576 := by rw [← hR]; exact Nat.le_trans (ordX_len g f k) (by decide)
  clear hR
  go_wp2_with fail
  refine (updateOrder_any _ g f k _ HG2.out hn).mono ?_
  rintro e w3 ⟨y3, rfl, hO3, hb3⟩
  rw [HR.out] at hO3
  obtain ⟨A3, k3, rfl, _, _⟩ := hO3.lit
  have HX3 := hide (HX2.out.up hb3)
  have HG3 := hide (HG2.out.up hb3)
  have hb03 := hb2.trans (hb3.mono hb2.size)
  clear c0 c1 HX2 HG2 hb2
  have c0 := HX3.out.cell 0
  have c1 := HX3.out.cell 1
  go_wp2_with fail
  refine (specOrder_any _ g f k _ HG3.out hn).mono ?_
  rintro e w4 ⟨y4, rfl, hO4, hb4⟩
  rw [HR.out] at hO4
  obtain ⟨A4, k4, rfl, _, _⟩ := hO4.lit
  have HX4 := hide (HX3.out.up hb4)
  have HG4 := hide (HG3.out.up hb4)
  have HO4 := hide (hO3.below hb4)
  have HW4 := hide hO4
  have hb04 := hb03.trans (hb4.mono hb03.size)
  clear c0 c1 HX3 HG3 hb03 hO3 hO4 hb3 hb4
  have c0 := HX4.out.cell 0
  have c1 := HX4.out.cell 1
  go_wp2_with fail
  refine (same_any _ _ R R _ (HO4.out.slr ic_len) (HW4.out.slr ic_len) hlo hlo).mono ?_
  rintro e w5 ⟨rfl, hb5⟩
  rw [eqB_self]
  have HX5 := hide (HX4.out.up hb5)
  have HG5 := hide (HG4.out.up hb5)
  have HO5 := hide (HO4.out.below hb5)
  have HW5 := hide (HW4.out.below hb5)
  have hb05 := hb04.trans (hb5.mono hb04.size)
  clear c0 c1 HX4 HG4 HO4 HW4 hb04 hb5
  have c0 := HX5.out.cell 0
  have c1 := HX5.out.cell 1
  obtain ⟨j, hj⟩ : ∃ j, j = cs.length % (R.length + 1) := ⟨_, rfl⟩
  have m6 : ((cs.length : Int) % ((R.length : Int) + 1)) = (j : Int) := by rw [hj]; simp
  have m7 : (cs.length : Int).tmod ((R.length : Int) + 1) = (j : Int) := by rw [Int.tmod_eq_emod_of_nonneg (by omega)]; exact m6
  have e7 : (((R.length : Int) + 1) == 0) = false := by rw [beq_eq_false_iff_ne]; omega
  have e8 : ¬ ((R.length : Int) + 1 = 0) := by omega
  have e9 : IntKind.i64.wrap ((R.length : Int) + 1) = (R.length : Int) + 1 := by rw [IntKind.wrap_i64]; omega
  have hjR : j ≤ R.length := by rw [hj]; have := Nat.mod_lt cs.length (show 0 < R.length + 1 by omega); omega
  have hck := ord_cap HO5.out
  have HLX := hide (loop_none HR.out j)
  have HSL := hide (fun W (hW : Below w5.heap.size w5 W) => cut_slr (HO5.out.below hW) rfl hjR)
  have hd5 := (Below.refl w5.heap.size w5).drew
  have HXd := hide (HX5.out.up hd5)
  have HGd := hide (HG5.out.up hd5)
  have hb0d := hb05.trans (hd5.mono hb05.size)
  have hjl : (R.take j).length ≤ 1048576 := by rw [List.length_take]; omega
  have q1 : j ≤ k3 := by omega
  clear hj HW5
  go_upto_region 8 with fail
  go_region_held3 (fun X' => X'.cell? ⟨X, 0, none⟩ = some (.int .i64 g.n) ∧ X'.cell? ⟨X, 1, none⟩ = some (.slice Ag g.ls.length cg)) (first | go_keep | exact ⟨HX7.out.cell 0, HX7.out.cell 1⟩ | fail)
    (first
      | (go_at_call 20; refine (mixedLoop_any _ _ g f k (R.take j) _ HGd.out hn (HSL.out _ hd5) hjl).mono ?_
         rintro e w7 ⟨y7, rfl, hO7, hb7⟩
         rw [HLX.out] at hO7
         obtain ⟨A7, k7, rfl, _, _⟩ := hO7.lit
         have HX7 := hide (HXd.out.up hb7)
         have hb07 := hb0d.trans (hb7.mono hb0d.size))
      | fail)
  all_goals
    go_wp2
    go_ret
    exact ⟨rfl, hb07⟩

theorem arr_reach {g : Gr} {f k : Int} {R : List Int} (h : Ok g k f) (hR : OrdL g (lkOf g f) k R) : arrX g f k R = reachL (Wo g f.toNat) k := by
  have hn := h.1.n
  rw [arrX, okL_yes h, reachL, okL_yes ⟨wo_gv h.1 _, wo_nd.2 h.2.2⟩]
  exact selTo_congr fun x hx => arr_all h.1 (lk_at h.2.1) h.2.2 hR ⟨by omega, by omega⟩
set_option maxRecDepth 100000 in
set_option maxHeartbeats 1600000 in
theorem lawArrivesAll (v : Value) (bs : List Int) (w : World) (hv : SlR bc 1 w w.heap.size v bs) (hm : bs.length ≤ 9223372036854775807 ∧ ∀ n ∈ bs, 0 ≤ n ∧ n ≤ 255) :
    Calls Try.prog 5 #[v] w fun e w' => e = .returned (.bool true) ∧ Below w.heap.size w w' := by
  by_cases hl : 1048576 < bs.length
  · obtain ⟨A, cap, rfl, hc, hr⟩ := hv
    clear hr hm
    go_enter Try.func5, Try.ntmps5
    go_wp2
    go_ret
    exact ⟨rfl, Below.refl _ _⟩
  have hvv := hv
  obtain ⟨A, cap, rfl, hc, hr⟩ := hvv
  have HM := hide hm
  clear hm hr hc
  go_enter Try.func5, Try.ntmps5
  go_wp2_with fail
  refine (drawUO_any _ bs _ hv HM.out).mono ?_
  rintro e w1 ⟨x1, g, f, k, rfl, hO1, hl15, hb1⟩
  obtain ⟨Ag, cg, rfl⟩ := hO1.lit
  obtain ⟨X, hX⟩ : ∃ X, X = w1.heap.size := ⟨_, rfl⟩
  obtain ⟨w2, hw2⟩ : ∃ w2, w2 = w1.alloc (Obj.cells #[.int .i64 g.n, .slice Ag g.ls.length cg] 25) := ⟨_, rfl⟩
  have h12 : Below w1.heap.size w1 w2 := by rw [hw2]; exact below1 _ _
  have HX2 := hide (show Blk w2 X 25 #[.int .i64 g.n, .slice Ag g.ls.length cg] from by rw [hw2, hX]; exact Blk.new _ _ _)
  have HG2 := hide (hO1.grr.up h12)
  have hb2 := hb1.trans (h12.mono hb1.size)
  have hn : g.ls.length ≤ 1048576 := by omega
  have c0 := HX2.out.cell 0
  have c1 := HX2.out.cell 1
  clear hO1 hb1 h12 HM
  go_upto_region 4 with fail
  rw [← hw2, ← hX]
  clear hw2 hX
  obtain ⟨R, hR⟩ : ∃ R, ordX g f k = R := ⟨_, rfl⟩
  have HR := hide hR
  have hlo : R.length ≤ 1048576 := by rw [← hR]; exact Nat.le_trans (ordX_len g f k) (by decide)
  clear hR
  go_wp2_with fail
  refine (updateOrder_any _ g f k _ HG2.out hn).mono ?_
  rintro e w3 ⟨y3, rfl, hO3, hb3⟩
  rw [HR.out] at hO3
  obtain ⟨A3, k3, rfl, _, _⟩ := hO3.lit
  have HX3 := hide (HX2.out.up hb3)
  have HG3 := hide (HG2.out.up hb3)
  have hb03 := hb2.trans (hb3.mono hb2.size)
  clear c0 c1 HX2 HG2 hb2
  have c0 := HX3.out.cell 0
  have c1 := HX3.out.cell 1
  go_wp2_with fail
  refine (specOrder_any _ g f k _ HG3.out hn).mono ?_
  rintro e w4 ⟨y4, rfl, hO4, hb4⟩
  rw [HR.out] at hO4
  obtain ⟨A4, k4, rfl, _, _⟩ := hO4.lit
  have HX4 := hide (HX3.out.up hb4)
  have HG4 := hide (HG3.out.up hb4)
  have HO4 := hide (hO3.below hb4)
  have HW4 := hide hO4
  have hb04 := hb03.trans (hb4.mono hb03.size)
  clear c0 c1 HX3 HG3 hb03 hO3 hO4 hb3 hb4
  have c0 := HX4.out.cell 0
  have c1 := HX4.out.cell 1
  go_wp2_with fail
  refine (same_any _ _ R R _ (HO4.out.slr ic_len) (HW4.out.slr ic_len) hlo hlo).mono ?_
  rintro e w5 ⟨rfl, hb5⟩
  rw [eqB_self]
  have HX5 := hide (HX4.out.up hb5)
  have HG5 := hide (HG4.out.up hb5)
  have HO5 := hide (HO4.out.below hb5)
  have HW5 := hide (HW4.out.below hb5)
  have hb05 := hb04.trans (hb5.mono hb04.size)
  clear c0 c1 HX4 HG4 HO4 HW4 hb04 hb5
  have c0 := HX5.out.cell 0
  have c1 := HX5.out.cell 1
  go_wp2_with fail
  refine (specValid_any _ g _ HG5.out hn).mono ?_
  rintro e w6 ⟨rfl, hb6⟩
  have HX6 := hide (HX5.out.up hb6)
  have HG6 := hide (HG5.out.up hb6)
  have HO6 := hide (HO5.out.below hb6)
  have HW6 := hide (HW5.out.below hb6)
  have hb06 := hb05.trans (hb6.mono hb05.size)
  clear c0 c1 HX5 HG5 HO5 HW5 hb05 hb6
  have c0 := HX6.out.cell 0
  have c1 := HX6.out.cell 1
  by_cases hV' : ¬ GV g
  · rw [tb_no hV']
    clear hV'
    go_wp2_with fail
    refine (same_any _ _ R R _ (HO6.out.slr ic_len) (HW6.out.slr ic_len) hlo hlo).mono ?_
    rintro e w7 ⟨rfl, hb7⟩
    rw [eqB_self]
    go_wp2
    go_ret
    exact ⟨rfl, hb06.trans (hb7.mono hb06.size)⟩
  have hV : GV g := Classical.not_not.1 hV'
  clear hV'
  rw [tb_yes hV]
  obtain ⟨hn1, hn2⟩ := hV.n
  have HV := hide hV
  clear hV
  by_cases hk0 : f < 0
  · go_wp2_with fail
    refine (same_any _ _ R R _ (HO6.out.slr ic_len) (HW6.out.slr ic_len) hlo hlo).mono ?_
    rintro e w7 ⟨rfl, hb7⟩
    rw [eqB_self]
    go_wp2
    go_ret
    exact ⟨rfl, hb06.trans (hb7.mono hb06.size)⟩
  by_cases hkn : (g.ls.length : Int) ≤ f
  · go_wp2_with fail
    refine (same_any _ _ R R _ (HO6.out.slr ic_len) (HW6.out.slr ic_len) hlo hlo).mono ?_
    rintro e w7 ⟨rfl, hb7⟩
    rw [eqB_self]
    go_wp2
    go_ret
    exact ⟨rfl, hb06.trans (hb7.mono hb06.size)⟩
  by_cases hf0 : k < 0
  · go_wp2_with fail
    refine (same_any _ _ R R _ (HO6.out.slr ic_len) (HW6.out.slr ic_len) hlo hlo).mono ?_
    rintro e w7 ⟨rfl, hb7⟩
    rw [eqB_self]
    go_wp2
    go_ret
    exact ⟨rfl, hb06.trans (hb7.mono hb06.size)⟩
  by_cases hfn : g.n ≤ k
  · go_wp2_with fail
    refine (same_any _ _ R R _ (HO6.out.slr ic_len) (HW6.out.slr ic_len) hlo hlo).mono ?_
    rintro e w7 ⟨rfl, hb7⟩
    rw [eqB_self]
    go_wp2
    go_ret
    exact ⟨rfl, hb06.trans (hb7.mono hb06.size)⟩
  have hK : Ok g k f := ⟨HV.out, ⟨by omega, by omega⟩, by omega, by omega⟩
  have hord := ordX_ord hK
  rw [HR.out] at hord
  have HORD := hide hord
  have HK := hide hK
  clear hK hord
  have hok : GV g ∧ Ix g f := ⟨HK.out.1, HK.out.2.1⟩
  go_wp2_with fail
  refine (without_any _ g f _ HG6.out hn).mono ?_
  rintro e w7 ⟨v7, rfl, hO7, hb7⟩
  rw [woX_yes hok] at hO7
  rw [tb_yes hok]
  have HAR := hide (arr_reach HK.out HORD.out.1)
  obtain ⟨G, hG⟩ : ∃ G, G = Wo g f.toNat := ⟨_, rfl⟩
  have hGl : G.ls.length ≤ 1048576 := by rw [hG]; exact Nat.le_trans (List.length_eraseIdx_le _ _) hn
  rw [← hG] at hO7 HAR
  obtain ⟨M, hM⟩ : ∃ M, reachL G k = M := ⟨_, rfl⟩
  rw [hM] at HAR
  have HM := hide hM
  have hMl : M.length ≤ 1048576 := by rw [← HAR.out]; exact Nat.le_trans (arrX_len _ _ _ _) (by decide)
  obtain ⟨A7, c7, rfl⟩ := hO7.lit
  have h78 := below1 w7 (Obj.cells #[.int .i64 G.n, .slice A7 G.ls.length c7] 25)
  have hb07 := hb06.trans (hb7.mono hb06.size)
  have hb08 := hb07.trans (h78.mono hb07.size)
  have HX8 := hide ((HX6.out.up hb7).up h78)
  have HG8 := hide ((HG6.out.up hb7).up h78)
  have HO8 := hide ((HO6.out.below hb7).below h78)
  have HGG := hide (hO7.grr.up h78)
  have HY8 := hide (Blk.new w7 25 #[.int .i64 G.n, .slice A7 G.ls.length c7])
  obtain ⟨Y, hY⟩ : ∃ Y, Y = w7.heap.size := ⟨_, rfl⟩
  obtain ⟨w8, hw8⟩ : ∃ w8, w8 = w7.alloc (Obj.cells #[.int .i64 G.n, .slice A7 G.ls.length c7] 25) := ⟨_, rfl⟩
  rw [← hw8] at hb08 HX8 HG8 HO8 HGG HY8
  rw [← hY] at HY8
  clear c0 c1 HX6 HG6 HO6 HW6 hb06 hb7 hb07 h78 hO7 hG hok hM
  go_upto_region 9 with fail
  rw [← hw8, ← hY]
  clear hw8 hY
  have hd8 := (Below.refl w8.heap.size w8).drew
  have hb0d := hb08.trans (hd8.mono hb08.size)
  have HC : Hid (∀ W, Below w8.heap.size w8 W → W.cell? ⟨X, 0, none⟩ = some (.int .i64 g.n) ∧ W.cell? ⟨X, 1, none⟩ = some (.slice Ag g.ls.length cg) ∧ W.cell? ⟨Y, 0, none⟩ = some (.int .i64 G.n) ∧ W.cell? ⟨Y, 1, none⟩ = some (.slice A7 G.ls.length c7)) :=
    hide fun W hW => ⟨(HX8.out.up hW).cell 0, (HX8.out.up hW).cell 1, (HY8.out.up hW).cell 0, (HY8.out.up hW).cell 1⟩
  go_region_held3 (fun W => W.cell? ⟨X, 0, none⟩ = some (.int .i64 g.n) ∧ W.cell? ⟨X, 1, none⟩ = some (.slice Ag g.ls.length cg) ∧ W.cell? ⟨Y, 0, none⟩ = some (.int .i64 G.n) ∧ W.cell? ⟨Y, 1, none⟩ = some (.slice A7 G.ls.length c7)) (first | exact HC.out _ hd8 | exact HC.out _ hB9 | exact HC.out _ hB10 | exact HC.out _ hB11 | fail)
    (first
      | (go_at_call 21; refine (mixedArrives_any _ _ g f k R _ (HG8.out.up hd8) hn ((HO8.out.below hd8).slr ic_len) hlo).mono ?_
         rintro e w9 ⟨y9, rfl, hO9, hb9⟩
         rw [HAR.out] at hO9
         obtain ⟨A9, k9, rfl, _, _⟩ := hO9.lit
         have hB9 := hd8.trans hb9)
      | (go_at_call 25; refine (reach_any _ G k _ (HGG.out.up hB9) hGl).mono ?_
         rintro e w10 ⟨y10, rfl, hO10, hb10⟩
         rw [HM.out] at hO10
         obtain ⟨A10, k10, rfl, _, _⟩ := hO10.lit
         have hB10 := hB9.trans (hb10.mono hB9.size)
         have HO10 := hide (hO9.below hb10))
      | (go_at_call 19; refine (same_any _ _ M M _ (HO10.out.slr ic_len) (hO10.slr ic_len) hMl hMl).mono ?_
         rintro e w11 ⟨rfl, hb11⟩
         rw [eqB_self]
         have hB11 := hB10.trans (hb11.mono hB10.size))
      | fail)
  all_goals
    go_wp2
    go_ret
    exact ⟨rfl, hb08.trans (hB11.mono hb08.size)⟩
set_option maxRecDepth 100000 in
set_option maxHeartbeats 1600000 in
theorem lawArrivesMore (v : Value) (bs : List Int) (v' : Value) (cs : List Int) (w : World) (hv : SlR bc 1 w w.heap.size v bs) (hm : bs.length ≤ 9223372036854775807 ∧ ∀ n ∈ bs, 0 ≤ n ∧ n ≤ 255) (hv' : SlR bc 1 w w.heap.size v' cs) (hm' : cs.length ≤ 9223372036854775807 ∧ ∀ n ∈ cs, 0 ≤ n ∧ n ≤ 255) :
    Calls Try.prog 4 #[v, v'] w fun e w' => e = .returned (.bool true) ∧ Below w.heap.size w w' := by
  have hvv := hv
  obtain ⟨A, cap, rfl, hc, hr⟩ := hvv
  have hvw := hv'
  obtain ⟨A', cap', rfl, hc', hr'⟩ := hvw
  have HM := hide hm
  have HM' := hide hm'
  have hm1 := hm.1
  have hm1' := hm'.1
  clear hm hm' hr hr' hc hc'
  by_cases hl : 1048576 < bs.length
  · go_enter Try.func4, Try.ntmps4
    go_wp2
    go_ret
    exact ⟨rfl, Below.refl _ _⟩
  by_cases hl' : 1048576 < cs.length
  · go_enter Try.func4, Try.ntmps4
    go_wp2
    go_ret
    exact ⟨rfl, Below.refl _ _⟩
  go_enter Try.func4, Try.ntmps4
  go_wp2_with fail
  refine (drawUO_any _ bs _ hv HM.out).mono ?_
  rintro e w1 ⟨x1, g, f, k, rfl, hO1, hl15, hb1⟩
  obtain ⟨Ag, cg, rfl⟩ := hO1.lit
  obtain ⟨X, hX⟩ : ∃ X, X = w1.heap.size := ⟨_, rfl⟩
  obtain ⟨w2, hw2⟩ : ∃ w2, w2 = w1.alloc (Obj.cells #[.int .i64 g.n, .slice Ag g.ls.length cg] 25) := ⟨_, rfl⟩
  have h12 : Below w1.heap.size w1 w2 := by rw [hw2]; exact below1 _ _
  have HX2 := hide (show Blk w2 X 25 #[.int .i64 g.n, .slice Ag g.ls.length cg] from by rw [hw2, hX]; exact Blk.new _ _ _)
  have HG2 := hide (hO1.grr.up h12)
  have hb2 := hb1.trans (h12.mono hb1.size)
  have hn : g.ls.length ≤ 1048576 := by omega
  have c0 := HX2.out.cell 0
  have c1 := HX2.out.cell 1
  clear hO1 hb1 h12 HM
  go_upto_region 4 with fail
  rw [← hw2, ← hX]
  clear hw2 hX
  obtain ⟨R, hR⟩ : ∃ R, ordX g f k = R := ⟨_, rfl⟩
  have HR := hide hR
  have hlo : R.length ≤ 1048576 := by rw [← hR]; exact Nat.le_trans (ordX_len g f k) (by decide)
  clear hR
  go_wp2_with fail
  refine (updateOrder_any _ g f k _ HG2.out hn).mono ?_
  rintro e w3 ⟨y3, rfl, hO3, hb3⟩
  rw [HR.out] at hO3
  obtain ⟨A3, k3, rfl, _, _⟩ := hO3.lit
  have HX3 := hide (HX2.out.up hb3)
  have HG3 := hide (HG2.out.up hb3)
  have hb03 := hb2.trans (hb3.mono hb2.size)
  clear c0 c1 HX2 HG2 hb2
  have c0 := HX3.out.cell 0
  have c1 := HX3.out.cell 1
  go_wp2_with fail
  refine (specOrder_any _ g f k _ HG3.out hn).mono ?_
  rintro e w4 ⟨y4, rfl, hO4, hb4⟩
  rw [HR.out] at hO4
  obtain ⟨A4, k4, rfl, _, _⟩ := hO4.lit
  have HX4 := hide (HX3.out.up hb4)
  have HG4 := hide (HG3.out.up hb4)
  have HO4 := hide (hO3.below hb4)
  have HW4 := hide hO4
  have hb04 := hb03.trans (hb4.mono hb03.size)
  clear c0 c1 HX3 HG3 hb03 hO3 hO4 hb3 hb4
  have c0 := HX4.out.cell 0
  have c1 := HX4.out.cell 1
  go_wp2_with fail
  refine (same_any _ _ R R _ (HO4.out.slr ic_len) (HW4.out.slr ic_len) hlo hlo).mono ?_
  rintro e w5 ⟨rfl, hb5⟩
  rw [eqB_self]
  have HX5 := hide (HX4.out.up hb5)
  have HG5 := hide (HG4.out.up hb5)
  have HO5 := hide (HO4.out.below hb5)
  have HW5 := hide (HW4.out.below hb5)
  have hb05 := hb04.trans (hb5.mono hb04.size)
  clear c0 c1 HX4 HG4 HO4 HW4 hb04 hb5
  have c0 := HX5.out.cell 0
  have c1 := HX5.out.cell 1
  by_cases h0 : R.length = 0
  · have e0 : ((R.length : Int) == 0) = true := by rw [beq_iff_eq]; omega
    clear h0
    go_wp2_with fail
    refine (same_any _ _ R R _ (HO5.out.slr ic_len) (HW5.out.slr ic_len) hlo hlo).mono ?_
    rintro e w6 ⟨rfl, hb6⟩
    rw [eqB_self]
    go_wp2
    go_ret
    exact ⟨rfl, hb05.trans (hb6.mono hb05.size)⟩
  have e0 : ((R.length : Int) == 0) = false := by rw [beq_eq_false_iff_ne]; omega
  have e8 : ¬ ((R.length : Int) = 0) := by omega
  have hK : Ok g k f := Classical.byContradiction fun h => h0 (by rw [← HR.out, ordX_no h]; rfl)
  have ho := (ordX_ord hK).1
  rw [HR.out] at ho
  obtain ⟨j, hj⟩ : ∃ j, j = cs.length % R.length := ⟨_, rfl⟩
  have m6 : ((cs.length : Int) % (R.length : Int)) = (j : Int) := by rw [hj]; simp
  have m7 : (cs.length : Int).tmod (R.length : Int) = (j : Int) := by rw [Int.tmod_eq_emod_of_nonneg (by omega)]; exact m6
  have hjR : j + 1 ≤ R.length := by rw [hj]; have := Nat.mod_lt cs.length (show 0 < R.length by omega); omega
  have e9 : IntKind.i64.wrap ((j : Int) + 1) = (j : Int) + 1 := by rw [IntKind.wrap_i64]; omega
  have hck := ord_cap HO5.out
  obtain ⟨L1, hL1⟩ : ∃ L, L = arrX g f k (R.take j) := ⟨_, rfl⟩
  obtain ⟨L2, hL2⟩ : ∃ L, L = arrX g f k (R.take (j + 1)) := ⟨_, rfl⟩
  have hLl1 : L1.length ≤ 8 := by rw [hL1]; exact arrX_len _ _ _ _
  have hLl2 : L2.length ≤ 1048576 := by rw [hL2]; exact Nat.le_trans (arrX_len _ _ _ _) (by decide)
  have HMO : Hid (∀ x, x ∈ L1 → x ∈ L2) := hide fun x hx => by
    rw [hL1, arrX_mem hK] at hx
    rw [hL2, arrX_mem hK]
    exact ⟨hx.1, arr_more hK.1 (lk_at hK.2.1) hK.2.2 ho hx.2⟩
  have HL1 := hide hL1
  have HL2 := hide hL2
  have HSL := hide (fun W (hW : Below w5.heap.size w5 W) => cut_slr (HO5.out.below hW) rfl (show j ≤ R.length by omega))
  have HSM := hide (fun W (hW : Below w5.heap.size w5 W) => cut_slr (HO5.out.below hW) rfl hjR)
  have hjl : (R.take j).length ≤ 1048576 := by rw [List.length_take]; omega
  have hjm : (R.take (j + 1)).length ≤ 1048576 := by rw [List.length_take]; omega
  have hd5 := (Below.refl w5.heap.size w5).drew
  have HC : Hid (∀ W, Below w5.heap.size w5 W → W.cell? ⟨X, 0, none⟩ = some (.int .i64 g.n) ∧ W.cell? ⟨X, 1, none⟩ = some (.slice Ag g.ls.length cg)) :=
    hide fun W hW => ⟨(HX5.out.up hW).cell 0, (HX5.out.up hW).cell 1⟩
  have q1 : j ≤ k3 := by omega
  have q2 : j + 1 ≤ k3 := by omega
  have q3 : (j : Int) + 1 ≤ (k3 : Int) := by omega
  have q4 : (0 : Int) ≤ (j : Int) + 1 := by omega
  have q5 : ((j : Int) + 1).toNat = j + 1 := by omega
  clear hj HW5 hK ho hL1 hL2 h0
  go_upto_region 9 with fail
  clear m6 m7 e8
  go_region_held3 (fun W => W.cell? ⟨X, 0, none⟩ = some (.int .i64 g.n) ∧ W.cell? ⟨X, 1, none⟩ = some (.slice Ag g.ls.length cg)) (first | exact HC.out _ hd5 | exact HC.out _ hB6 | fail)
    (first
      | (go_at_call 21; refine (mixedArrives_any _ _ g f k (R.take j) _ (HG5.out.up hd5) hn (HSL.out _ hd5) hjl).mono ?_
         rintro e w6 ⟨y6, rfl, hO6, hb6⟩
         rw [← HL1.out] at hO6
         obtain ⟨A6, k6, rfl, _, _⟩ := hO6.lit
         have hB6 := hd5.trans hb6
         have HO6 := hide hO6)
      | fail)
  obtain ⟨c0', c1'⟩ := HC.out _ hB6
  have hd6 := hB6.trans ((Below.refl w6.heap.size w6).drew.mono hB6.size)
  clear hO6 c0 c1
  go_upto_region 10 with fail
  go_region_held3 (fun W => W.cell? ⟨X, 0, none⟩ = some (.int .i64 g.n) ∧ W.cell? ⟨X, 1, none⟩ = some (.slice Ag g.ls.length cg)) (first | exact HC.out _ hd6 | exact HC.out _ hB7 | fail)
    (first
      | (go_at_call 21; refine (mixedArrives_any _ _ g f k (R.take (j + 1)) _ (HG5.out.up hd6) hn (HSM.out _ hd6) hjm).mono ?_
         rintro e w7 ⟨y7, rfl, hO7, hb7⟩
         rw [← HL2.out] at hO7
         obtain ⟨A7, k7, rfl, _, _⟩ := hO7.lit
         have hB7 := hd6.trans (hb7.mono hd6.size)
         have HO7 := hide (hO7.low (base' := w5.heap.size) hd6.size)
         have HO6' := hide ((HO6.out.below (Below.refl _ _).drew).below hb7))
      | fail)
  have hb07 := hb05.trans (hB7.mono hb05.size)
  clear c0' c1' HC hB6 hd6 hB7 hd5 HSL HSM hO7 hb7
  go_wp2
  go_loopg [13] (L1.length) (fun gg iv wr => ∃ i : Nat, i + gg = L1.length ∧ iv = .int .i64 i ∧ Below w7.heap.size w7 wr)
  case atStart => exact ⟨0, by omega, rfl, Below.refl _ _⟩
  case round =>
    obtain ⟨i, hi, rfl, hbe⟩ := hrel
    by_cases hlt : i < L1.length
    · obtain ⟨x, hx⟩ := get_some hlt
      have hxm := HMO.out x (List.mem_of_getElem? hx)
      obtain ⟨o6, k6', he, _, _⟩ := HO6'.out.form (by omega)
      obtain ⟨rfl, rfl⟩ : A6 = some ⟨o6, 0, none⟩ ∧ k6 = k6' := by
        injection he with h1 h2 h3
        exact ⟨h1, h3⟩
      have xm := own_int (HO6'.out.below hbe) hx
      have HXM := hide hxm
      clear he hx hxm
      go_wp2_with fail
      refine (hasInt_any _ L2 x _ ((HO7.out.below hbe).slr ic_len) hLl2).mono ?_
      rintro e w8 ⟨rfl, hb8⟩
      rw [tb_yes HXM.out]
      have hbe8 := hbe.trans (hb8.mono hbe.size)
      clear xm hb8
      go_wp2
      go_roundg (gk - 1)
      case measure => omega
      case rel => exact ⟨i + 1, by omega, by go_num, hbe8⟩
    · go_wp2
      go_ret
      exact ⟨rfl, hb07.trans (hbe.mono hb07.size)⟩
end Go.Proofs.Ytbhkjeicogjfbaa
