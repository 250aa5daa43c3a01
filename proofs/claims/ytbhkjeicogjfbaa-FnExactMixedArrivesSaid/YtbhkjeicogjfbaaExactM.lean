/- The laws FnExactMixedHops, FnExactMixedLoop and FnExactMixedArrives, walked: they return true for every graph, numbers and changed nodes. Conditions: none. -/
import Derived.Test.YtbhkjeicogjfbaaExG
import Derived.Test.YtbhkjeicogjfbaaLoopS
namespace Go.Proofs.Ytbhkjeicogjfbaa
open Go.RowKit

/-- What is kept from call to call: also the copy c of the changed nodes. -/
structure ExC (w W : World) (b0 bZ : Nat) (c0 cZ : Array Value) (y g : Value) (R G : List Int) (x : Value) (gx : Gr) (c : Value) (C : List Int) : Prop where
  e : ExGX w W b0 bZ c0 cZ y g R G x gx
  oc : Own ic 3 1 W w.heap.size c C
  dy : ∀ q, y.ownBlock = some q → c.ownBlock ≠ some q
  dg : ∀ q, g.ownBlock = some q → c.ownBlock ≠ some q
structure ExD (w W : World) (b0 : Nat) (c0 : Array Value) (y g : Value) (R G : List Int) (c : Value) (C : List Int) : Prop where
  e : ExG w W b0 c0 y g R G
  oc : Own ic 3 1 W w.heap.size c C
  dy : ∀ q, y.ownBlock = some q → c.ownBlock ≠ some q
  dg : ∀ q, g.ownBlock = some q → c.ownBlock ≠ some q
section
variable {w W W' : World} {b0 bZ : Nat} {c0 cZ : Array Value} {y g x c : Value} {R G C C' : List Int} {gx : Gr}
theorem ExC.below (h : ExC w W b0 bZ c0 cZ y g R G x gx c C) (hb : Below W.heap.size W W') : ExC w W' b0 bZ c0 cZ y g R G x gx c C :=
  ⟨h.e.below hb, h.oc.below hb, h.dy, h.dg⟩
theorem ExC.drew (h : ExC w W b0 bZ c0 cZ y g R G x gx c C) : ExC w W.drew b0 bZ c0 cZ y g R G x gx c C := h.below ((Below.refl _ _).drew)
theorem ExC.mark (h : ExC w W b0 bZ c0 cZ y g R G x gx c C) (hm : MarkF x W W') (hb : w.heap.size ≤ W.heap.size → Below w.heap.size W W') : ExD w W' b0 c0 y g R G c C :=
  ⟨h.e.mark hm hb, h.oc.keep fun q hq => hm.2 q (World.ownsRow.lt h.oc q hq).2 (own_notG h.oc h.e.ox q hq), h.dy, h.dg⟩
theorem ExD.markC (h : ExD w W b0 c0 y g R G c C) (hm : W.grownBy W' c.ownBlock) : ExG w W' b0 c0 y g R G :=
  ⟨h.e.bw.trans (below_only hm h.e.bw.size fun q hq => (World.ownsRow.lt h.oc q hq).1), h.e.t3.grown hm (fun he => own_blk_ne h.oc h.e.t3 (by decide) he.symm),
    own_grown h.e.oy hm (fun q hq => h.dy q hq), own_grown h.e.og hm (fun q hq => h.dg q hq), h.e.dis⟩
end
theorem markI_n (v : Value) (cs : List Int) (a K : Int) (base : Nat) (w : World) (hO : Own ic 3 1 w base v cs) (hn : cs.length ≤ 1048576) (ha : 0 ≤ a ∧ a ≤ 1099511627776) (hK : K = a + (cs.length : Int)) :
    Calls Try.prog 34 #[v, .int .i64 a] w fun e w' => e = .returned (.int .i64 K) ∧ w.grownBy w' v.ownBlock := by
  rw [hK]
  exact (markI_any v cs a base w hO hn ha).mono fun e w' h => ⟨h.1, h.2.2⟩
theorem mixX_len8 (g : Gr) (k y : Int) (ch : List Int) (x : Int) : (mixX g k y ch x).length ≤ 8 := okL_len fun h => mixR_len h.1.1 _ _ _ _
theorem loopX_len8 (g : Gr) (k y : Int) (ch : List Int) : (loopX g k y ch).length ≤ 8 := okL_len fun h => selTo_le _ _ (by have := h.1.n; omega)
theorem arrX_len8 (g : Gr) (k y : Int) (ch : List Int) : (arrX g k y ch).length ≤ 8 := okL_len fun h => selTo_le _ _ (by have := h.1.n; omega)
set_option maxRecDepth 100000 in
set_option maxHeartbeats 1600000 in
theorem lawExactMixedHops (v : Value) (g : Gr) (f k : Int) (u : Value) (ch:List Int) (n:Int) (w : World) (hv : GrR w w.heap.size v g) (hm : g.ls.length ≤ 9223372036854775807) (hu : SlR ic 1 w w.heap.size u ch) (hmu : ch.length ≤ 9223372036854775807) :
    Calls Try.prog 6 #[v, .int .i64 f, .int .i64 k, u, .int .i64 n] w fun e w' => e = .returned (.bool true) ∧ Below w.heap.size w w' := by
  obtain ⟨R, hR⟩ : ∃ R, mixX g f k ch n = R := ⟨_, rfl⟩
  have HR := hide hR
  have hlo : R.length ≤ 1048576 := by rw [← hR]; exact Nat.le_trans (mixX_len8 ..) (by decide)
  clear hR
  have hvv := hv
  obtain ⟨v2, rfl, h2⟩ := hv
  clear h2
  have huu := hu
  obtain ⟨Au, cu, rfl, _, hur⟩ := hu
  clear hur
  have hb00 := below1 w (.cells #[.int .i64 g.n, v2] 41)
  have HB0 := hide (Blk.new w 41 #[.int .i64 g.n, v2])
  by_cases hcl : 1048576 < ch.length
  · go_enter Try.func6, Try.ntmps6
    go_wp2
    go_ret
    exact ⟨rfl, hb00⟩
  have hch : ch.length ≤ 1048576 := by omega
  clear hcl hmu
  by_cases hn : g.ls.length ≤ 1048576
  · have hsz : (0 : Int) ≤ 1048576 - g.ls.length := by omega
    go_enter Try.func6, Try.ntmps6
    go_wp2_with fail
    refine (szG_any _ g _ (hvv.up hb00) hn).mono ?_
    rintro e w1 ⟨rfl, hb1⟩
    have hb01 := hb00.trans (hb1.mono hb00.size)
    have HB1 := hide (HB0.out.up hb1)
    have cA := HB1.out.cell 0
    have cB := HB1.out.cell 1
    clear HB0
    go_wp2_with fail
    refine (toG_any _ g _ (hvv.up hb01) hn).mono ?_
    rintro e w2 ⟨x, rfl, hO1, hb2⟩
    clear cA cB
    have hb02 := hb01.trans (hb2.mono hb01.size)
    have HB2 := hide (HB1.out.up hb2)
    have cA := HB2.out.cell 0
    have cB := HB2.out.cell 1
    clear HB1
    go_wp2_with fail
    refine (toI_any _ ch _ (huu.up hb02) hch).mono ?_
    rintro e w3 ⟨u3, rfl, hU3, hb3⟩
    clear cA cB
    have hb03 := hb02.trans (hb3.mono hb02.size)
    have HB3 := hide (HB2.out.up hb3)
    have cA := HB3.out.cell 0
    have cB := HB3.out.cell 1
    clear HB2
    go_wp2_with fail
    refine (specMixed_any _ _ g f k n ch _ (hO1.below hb3).grr hn (hU3.slr ic_len) hch).mono ?_
    rintro e w4 ⟨y, rfl, hOy, hb4⟩
    clear cA cB
    have hb04 := hb03.trans (hb4.mono hb03.size)
    have HB4 := hide (HB3.out.up hb4)
    have cA := HB4.out.cell 0
    have cB := HB4.out.cell 1
    clear HB3
    rw [HR.out] at hOy
    obtain ⟨A1, k1, rfl, _, _⟩ := hOy.lit
    go_wp2_with fail
    refine (toG_any _ g _ (hvv.up hb04) hn).mono ?_
    rintro e w5 ⟨x', rfl, hOx, hb5⟩
    clear cA cB
    have hb05 := hb04.trans (hb5.mono hb04.size)
    have HB5 := hide (HB4.out.up hb5)
    have cA := HB5.out.cell 0
    have cB := HB5.out.cell 1
    clear HB4
    obtain ⟨A3, k3, rfl⟩ := hOx.lit
    have hb6 := below1 w5 (.cells #[.int .i64 g.n, .slice A3 g.ls.length k3] 25)
    have HX6 := hide (Blk.new w5 25 #[.int .i64 g.n, .slice A3 g.ls.length k3])
    clear cA cB
    have hb06 := hb05.trans (hb6.mono hb05.size)
    have HB6 := hide (HB5.out.up hb6)
    have cA := HB6.out.cell 0
    have cB := HB6.out.cell 1
    clear HB5
    go_wp2_with fail
    refine (toI_any _ ch _ (huu.up hb06) hch).mono ?_
    rintro e w7 ⟨c7, rfl, hOc, hb7⟩
    obtain ⟨Ac, kc, rfl, _, _⟩ := hOc.lit
    have HX7 := hide (HX6.out.up hb7)
    clear cA cB
    have hb07 := hb06.trans (hb7.mono hb06.size)
    have HB7 := hide (HB6.out.up hb7)
    have cA := HB7.out.cell 0
    have cB := HB7.out.cell 1
    clear HB6
    have cX := HX7.out.cell 0
    have cY := HX7.out.cell 1
    go_wp2_with fail
    refine (mixedHopsX_any _ _ g f k n ch _ ((hOx.below hb6).below hb7).grr hn (hOc.slr ic_len) hch).mono ?_
    rintro e w8 ⟨gv, rfl, hOg, hb8⟩
    clear cA cB cX cY
    have hb08 := hb07.trans (hb8.mono hb07.size)
    have HB8 := hide (HB7.out.up hb8)
    have cA := HB8.out.cell 0
    have cB := HB8.out.cell 1
    clear HB7
    have HX8 := hide (HX7.out.up hb8)
    rw [HR.out] at hOg
    obtain ⟨A5, k5, rfl, _, _⟩ := hOg.lit
    have s56 : w5.heap.size ≤ (w5.alloc (.cells #[.int .i64 g.n, .slice A3 g.ls.length k3] 25)).heap.size := hb6.size
    have X8 : ExC w w8 w.heap.size w5.heap.size #[.int .i64 g.n, v2] #[.int .i64 g.n, .slice A3 g.ls.length k3] (.slice A1 R.length k1) (.slice A5 R.length k5) R R (.agg #[.int .i64 g.n, .slice A3 g.ls.length k3]) g (.slice Ac ch.length kc) ch :=
      ⟨⟨⟨hb08, HB8.out, ((((hOy.below hb5).below hb6).below hb7).below hb8).low hb03.size, hOg.low hb07.size, fun q hq hq' => by
        have h1 := (World.ownsRow.lt hOy q hq).2
        have h2 := (World.ownsRow.lt hOg q hq').1
        have h3 := hb5.size
        have h4 := hb7.size
        omega⟩, HX8.out, (((hOx.below hb6).below hb7).below hb8).low hb04.size⟩, (hOc.below hb8).low hb06.size, fun q hq hq' => by
        have h1 := (World.ownsRow.lt hOy q hq).2
        have h2 := (World.ownsRow.lt hOc q hq').1
        have h3 := hb5.size
        omega, fun q hq hq' => by
        have h1 := (World.ownsRow.lt hOg q hq).1
        have h2 := (World.ownsRow.lt hOc q hq').2
        omega⟩
    clear hOy hOx hOg hOc hU3 HX6 HX7 HX8 HB8 hb01 hb02 hb03 hb04 hb05 hb06 hb07 hb08 hb00 hb1 hb2 hb3 hb4 hb5 hb6 hb7 hb8 s56 cA cB hO1
    obtain ⟨bZ, hbZ⟩ : ∃ b, b = w5.heap.size := ⟨_, rfl⟩
    rw [← hbZ] at X8
    have X8 := hide X8
    have cA := X8.out.e.e.t3.cell 0
    have cB := X8.out.e.e.t3.cell 1
    go_wp2_with fail
    refine (eqI_any _ _ R R _ (X8.out.e.e.og.slr ic_len) (X8.out.e.e.oy.slr ic_len) hlo hlo).mono ?_
    rintro e w9 ⟨rfl, hb9⟩
    rw [eqB_self]
    have X9 := hide (X8.out.below hb9)
    clear X8 hb9 cA cB
    have cA := X9.out.e.e.t3.cell 0
    have cB := X9.out.e.e.t3.cell 1
    have cX := X9.out.e.tz.cell 0
    have cY := X9.out.e.tz.cell 1
    rw [hbZ] at cX cY
    go_wp2_with fail
    have hv9 := hvv.up X9.out.e.e.bw.drew
    go_region_held3 (fun w' => w'.cell? ⟨w.heap.size, 0, none⟩ = some (.int .i64 g.n) ∧ w'.cell? ⟨w.heap.size, 1, none⟩ = some v2 ∧ w'.cell? ⟨w5.heap.size, 0, none⟩ = some (.int .i64 g.n) ∧ w'.cell? ⟨w5.heap.size, 1, none⟩ = some (.slice A3 g.ls.length k3)) (first | go_keep | exact ⟨cA7, cB7, cX7, cY7⟩ | fail) (first | (go_at_call 28; refine (toG_any _ g _ hv9 hn).mono ?_; rintro e w10 ⟨z, rfl, hO10, hb10'⟩; have cA7 := (hb10'.cell (World.block_lt_of_cell? w9.drew _ cA)).trans cA; have cB7 := (hb10'.cell (World.block_lt_of_cell? w9.drew _ cB)).trans cB; have cX7 := (hb10'.cell (World.block_lt_of_cell? w9.drew _ cX)).trans cX; have cY7 := (hb10'.cell (World.block_lt_of_cell? w9.drew _ cY)).trans cY) | (go_at_call 32; refine (eqG_any _ z g g _ ((X9.out.drew.below hb10').e.ox.grr) hO10.grr hn hn).mono ?_; rintro e w11 ⟨rfl, hb11'⟩; rw [eqB_self]; have cA7 := (hb11'.cell (World.block_lt_of_cell? w10 _ cA7)).trans cA7; have cB7 := (hb11'.cell (World.block_lt_of_cell? w10 _ cB7)).trans cB7; have cX7 := (hb11'.cell (World.block_lt_of_cell? w10 _ cX7)).trans cX7; have cY7 := (hb11'.cell (World.block_lt_of_cell? w10 _ cY7)).trans cY7) | fail)
    have X11 := hide ((X9.out.drew.below hb10').below hb11')
    clear X9 hb10' hb11' hv9 hO10 cX cY cA7 cB7 cX7 cY7 cA cB
    have cA := X11.out.e.e.t3.cell 0
    have cB := X11.out.e.e.t3.cell 1
    have cX := X11.out.e.tz.cell 0
    have cY := X11.out.e.tz.cell 1
    rw [hbZ] at cX cY
    go_wp2_with fail
    refine (toI_any _ ch _ (huu.up X11.out.e.e.bw) hch).mono ?_
    rintro e w12 ⟨c12, rfl, hO12, hb12⟩
    have X12 := hide (X11.out.below hb12)
    clear X11 hb12 cX cY cA cB
    have cA := X12.out.e.e.t3.cell 0
    have cB := X12.out.e.e.t3.cell 1
    have cX := X12.out.e.tz.cell 0
    have cY := X12.out.e.tz.cell 1
    rw [hbZ] at cX cY
    go_wp2_with fail
    refine (eqI_any _ _ ch ch _ (X12.out.oc.slr ic_len) (hO12.slr ic_len) hch hch).mono ?_
    rintro e w13 ⟨rfl, hb13⟩
    rw [eqB_self]
    have X13 := hide (X12.out.below hb13)
    clear X12 hb13 hO12 cX cY cA cB
    have cA := X13.out.e.e.t3.cell 0
    have cB := X13.out.e.e.t3.cell 1
    have cX := X13.out.e.tz.cell 0
    have cY := X13.out.e.tz.cell 1
    rw [hbZ] at cX cY
    obtain ⟨K, hK⟩ : ∃ K : Int, K = 1 + 3 * (g.ls.length : Int) := ⟨_, rfl⟩
    have hK0 : 0 ≤ K := by omega
    have hK1 : K ≤ 1099511627776 := by omega
    go_wp2_with fail
    refine (markG_k _ g _ K _ X13.out.e.ox hn hK).mono ?_
    rintro e w14 ⟨rfl, hom, hm14, hb14⟩
    have E14 := hide (X13.out.mark hm14 hb14)
    clear hom hm14 hb14 X13 cX cY hK cA cB
    have cA := E14.out.e.t3.cell 0
    have cB := E14.out.e.t3.cell 1
    obtain ⟨K2, hK2⟩ : ∃ K2 : Int, K2 = K + (ch.length : Int) := ⟨_, rfl⟩
    have hK20 : 0 ≤ K2 := by omega
    go_wp2_with fail
    refine (markI_n _ ch K K2 _ _ E14.out.oc hch ⟨hK0, hK1⟩ hK2).mono ?_
    rintro e w15 ⟨rfl, hm15⟩
    have E15 := hide (E14.out.markC hm15)
    clear hm15 E14 cA cB hK2
    have cA := E15.out.t3.cell 0
    have cB := E15.out.t3.cell 1
    go_wp2_with fail
    refine (eqI_any _ _ R R _ (E15.out.og.slr ic_len) (E15.out.oy.slr ic_len) hlo hlo).mono ?_
    rintro e w16 ⟨rfl, hb16⟩
    rw [eqB_self]
    have E16 := hide (E15.out.below hb16)
    clear E15 hb16 cA cB
    have cA := E16.out.t3.cell 0
    have cB := E16.out.t3.cell 1
    obtain ⟨M, hM⟩ : ∃ M : Int, M = 1 + (R.length : Int) := ⟨_, rfl⟩
    have hM0 : 0 ≤ M := by omega
    have hMM : (M != M) = false := by simp
    go_wp2_with fail
    refine (markI_k _ R M _ _ E16.out.og hlo hM).mono ?_
    rintro e w17 ⟨rfl, hog, hm17⟩
    have E17 := hide (E16.out.mark hog hm17)
    clear hog hm17 E16 cA cB
    have cA := E17.out.t3.cell 0
    have cB := E17.out.t3.cell 1
    go_wp2_with fail
    refine (heldI_k _ R.length M _ (E17.out.og.slr ic_len) hlo hM).mono ?_
    rintro e w18 ⟨rfl, hw18⟩
    subst hw18
    go_wp2_with fail
    refine (toG_any _ g _ (hvv.up E17.out.bw) hn).mono ?_
    rintro e w19 ⟨x19, rfl, hO19, hb19⟩
    have E19 := hide (E17.out.below hb19)
    clear E17 hb19 cA cB
    have cA := E19.out.t3.cell 0
    have cB := E19.out.t3.cell 1
    go_wp2_with fail
    refine (toI_any _ ch _ (huu.up E19.out.bw) hch).mono ?_
    rintro e w20 ⟨c20, rfl, hC20, hb20⟩
    have E20 := hide (E19.out.below hb20)
    have HO20 := hide (hO19.below hb20)
    clear E19 hb20 hO19 cA cB
    have cA := E20.out.t3.cell 0
    have cB := E20.out.t3.cell 1
    go_wp2_with fail
    refine (mixedHopsX_any _ _ g f k n ch _ HO20.out.grr hn (hC20.slr ic_len) hch).mono ?_
    rintro e w21 ⟨g21, rfl, hO21, hb21⟩
    rw [HR.out] at hO21
    obtain ⟨A7, k7, rfl, _, _⟩ := hO21.lit
    have E21 := hide (E20.out.below hb21)
    clear E20 HO20 hC20 hb21 cA cB
    have cA := E21.out.t3.cell 0
    have cB := E21.out.t3.cell 1
    go_wp2_with fail
    refine (eqI_any _ _ R R _ (hO21.slr ic_len) (E21.out.oy.slr ic_len) hlo hlo).mono ?_
    rintro e w22 ⟨rfl, hb22⟩
    rw [eqB_self]
    have E22 := hide (E21.out.below hb22)
    clear E21 hb22 hO21 cA cB
    go_wp2_with fail
    refine (heldI_k _ R.length M _ (E22.out.og.slr ic_len) hlo hM).mono ?_
    rintro e w23 ⟨rfl, hw23⟩
    subst hw23
    go_wp2
    go_ret
    exact ⟨rfl, E22.out.bw⟩
  · go_enter Try.func6, Try.ntmps6
    go_wp2_with fail
    refine (szG_over _ g _ (hvv.up hb00) (by omega) hm).mono ?_
    rintro e w1 ⟨rfl, hb1⟩
    go_wp2
    go_ret
    exact ⟨rfl, hb00.trans (hb1.mono hb00.size)⟩
set_option maxRecDepth 100000 in
set_option maxHeartbeats 1600000 in
theorem lawExactMixedLoop (v : Value) (g : Gr) (f k : Int) (u : Value) (ch:List Int) (w : World) (hv : GrR w w.heap.size v g) (hm : g.ls.length ≤ 9223372036854775807) (hu : SlR ic 1 w w.heap.size u ch) (hmu : ch.length ≤ 9223372036854775807) :
    Calls Try.prog 11 #[v, .int .i64 f, .int .i64 k, u] w fun e w' => e = .returned (.bool true) ∧ Below w.heap.size w w' := by
  obtain ⟨R, hR⟩ : ∃ R, loopX g f k ch = R := ⟨_, rfl⟩
  have HR := hide hR
  have hlo : R.length ≤ 1048576 := by rw [← hR]; exact Nat.le_trans (loopX_len8 ..) (by decide)
  clear hR
  have hvv := hv
  obtain ⟨v2, rfl, h2⟩ := hv
  clear h2
  have huu := hu
  obtain ⟨Au, cu, rfl, _, hur⟩ := hu
  clear hur
  have hb00 := below1 w (.cells #[.int .i64 g.n, v2] 41)
  have HB0 := hide (Blk.new w 41 #[.int .i64 g.n, v2])
  by_cases hcl : 1048576 < ch.length
  · go_enter Try.func11, Try.ntmps11
    go_wp2
    go_ret
    exact ⟨rfl, hb00⟩
  have hch : ch.length ≤ 1048576 := by omega
  clear hcl hmu
  by_cases hn : g.ls.length ≤ 1048576
  · have hsz : (0 : Int) ≤ 1048576 - g.ls.length := by omega
    go_enter Try.func11, Try.ntmps11
    go_wp2_with fail
    refine (szG_any _ g _ (hvv.up hb00) hn).mono ?_
    rintro e w1 ⟨rfl, hb1⟩
    have hb01 := hb00.trans (hb1.mono hb00.size)
    have HB1 := hide (HB0.out.up hb1)
    have cA := HB1.out.cell 0
    have cB := HB1.out.cell 1
    clear HB0
    go_wp2_with fail
    refine (toG_any _ g _ (hvv.up hb01) hn).mono ?_
    rintro e w2 ⟨x, rfl, hO1, hb2⟩
    clear cA cB
    have hb02 := hb01.trans (hb2.mono hb01.size)
    have HB2 := hide (HB1.out.up hb2)
    have cA := HB2.out.cell 0
    have cB := HB2.out.cell 1
    clear HB1
    go_wp2_with fail
    refine (toI_any _ ch _ (huu.up hb02) hch).mono ?_
    rintro e w3 ⟨u3, rfl, hU3, hb3⟩
    clear cA cB
    have hb03 := hb02.trans (hb3.mono hb02.size)
    have HB3 := hide (HB2.out.up hb3)
    have cA := HB3.out.cell 0
    have cB := HB3.out.cell 1
    clear HB2
    go_wp2_with fail
    refine (specLoop_any _ _ g f k ch _ (hO1.below hb3).grr hn (hU3.slr ic_len) hch).mono ?_
    rintro e w4 ⟨y, rfl, hOy, hb4⟩
    clear cA cB
    have hb04 := hb03.trans (hb4.mono hb03.size)
    have HB4 := hide (HB3.out.up hb4)
    have cA := HB4.out.cell 0
    have cB := HB4.out.cell 1
    clear HB3
    rw [HR.out] at hOy
    obtain ⟨A1, k1, rfl, _, _⟩ := hOy.lit
    go_wp2_with fail
    refine (toG_any _ g _ (hvv.up hb04) hn).mono ?_
    rintro e w5 ⟨x', rfl, hOx, hb5⟩
    clear cA cB
    have hb05 := hb04.trans (hb5.mono hb04.size)
    have HB5 := hide (HB4.out.up hb5)
    have cA := HB5.out.cell 0
    have cB := HB5.out.cell 1
    clear HB4
    obtain ⟨A3, k3, rfl⟩ := hOx.lit
    have hb6 := below1 w5 (.cells #[.int .i64 g.n, .slice A3 g.ls.length k3] 25)
    have HX6 := hide (Blk.new w5 25 #[.int .i64 g.n, .slice A3 g.ls.length k3])
    clear cA cB
    have hb06 := hb05.trans (hb6.mono hb05.size)
    have HB6 := hide (HB5.out.up hb6)
    have cA := HB6.out.cell 0
    have cB := HB6.out.cell 1
    clear HB5
    go_wp2_with fail
    refine (toI_any _ ch _ (huu.up hb06) hch).mono ?_
    rintro e w7 ⟨c7, rfl, hOc, hb7⟩
    obtain ⟨Ac, kc, rfl, _, _⟩ := hOc.lit
    have HX7 := hide (HX6.out.up hb7)
    clear cA cB
    have hb07 := hb06.trans (hb7.mono hb06.size)
    have HB7 := hide (HB6.out.up hb7)
    have cA := HB7.out.cell 0
    have cB := HB7.out.cell 1
    clear HB6
    have cX := HX7.out.cell 0
    have cY := HX7.out.cell 1
    go_wp2_with fail
    refine (mixedLoop_any _ _ g f k ch _ ((hOx.below hb6).below hb7).grr hn (hOc.slr ic_len) hch).mono ?_
    rintro e w8 ⟨gv, rfl, hOg, hb8⟩
    clear cA cB cX cY
    have hb08 := hb07.trans (hb8.mono hb07.size)
    have HB8 := hide (HB7.out.up hb8)
    have cA := HB8.out.cell 0
    have cB := HB8.out.cell 1
    clear HB7
    have HX8 := hide (HX7.out.up hb8)
    rw [HR.out] at hOg
    obtain ⟨A5, k5, rfl, _, _⟩ := hOg.lit
    have s56 : w5.heap.size ≤ (w5.alloc (.cells #[.int .i64 g.n, .slice A3 g.ls.length k3] 25)).heap.size := hb6.size
    have X8 : ExC w w8 w.heap.size w5.heap.size #[.int .i64 g.n, v2] #[.int .i64 g.n, .slice A3 g.ls.length k3] (.slice A1 R.length k1) (.slice A5 R.length k5) R R (.agg #[.int .i64 g.n, .slice A3 g.ls.length k3]) g (.slice Ac ch.length kc) ch :=
      ⟨⟨⟨hb08, HB8.out, ((((hOy.below hb5).below hb6).below hb7).below hb8).low hb03.size, hOg.low hb07.size, fun q hq hq' => by
        have h1 := (World.ownsRow.lt hOy q hq).2
        have h2 := (World.ownsRow.lt hOg q hq').1
        have h3 := hb5.size
        have h4 := hb7.size
        omega⟩, HX8.out, (((hOx.below hb6).below hb7).below hb8).low hb04.size⟩, (hOc.below hb8).low hb06.size, fun q hq hq' => by
        have h1 := (World.ownsRow.lt hOy q hq).2
        have h2 := (World.ownsRow.lt hOc q hq').1
        have h3 := hb5.size
        omega, fun q hq hq' => by
        have h1 := (World.ownsRow.lt hOg q hq).1
        have h2 := (World.ownsRow.lt hOc q hq').2
        omega⟩
    clear hOy hOx hOg hOc hU3 HX6 HX7 HX8 HB8 hb01 hb02 hb03 hb04 hb05 hb06 hb07 hb08 hb00 hb1 hb2 hb3 hb4 hb5 hb6 hb7 hb8 s56 cA cB hO1
    obtain ⟨bZ, hbZ⟩ : ∃ b, b = w5.heap.size := ⟨_, rfl⟩
    rw [← hbZ] at X8
    have X8 := hide X8
    have cA := X8.out.e.e.t3.cell 0
    have cB := X8.out.e.e.t3.cell 1
    go_wp2_with fail
    refine (eqI_any _ _ R R _ (X8.out.e.e.og.slr ic_len) (X8.out.e.e.oy.slr ic_len) hlo hlo).mono ?_
    rintro e w9 ⟨rfl, hb9⟩
    rw [eqB_self]
    have X9 := hide (X8.out.below hb9)
    clear X8 hb9 cA cB
    have cA := X9.out.e.e.t3.cell 0
    have cB := X9.out.e.e.t3.cell 1
    have cX := X9.out.e.tz.cell 0
    have cY := X9.out.e.tz.cell 1
    rw [hbZ] at cX cY
    go_wp2_with fail
    have hv9 := hvv.up X9.out.e.e.bw.drew
    go_region_held3 (fun w' => w'.cell? ⟨w.heap.size, 0, none⟩ = some (.int .i64 g.n) ∧ w'.cell? ⟨w.heap.size, 1, none⟩ = some v2 ∧ w'.cell? ⟨w5.heap.size, 0, none⟩ = some (.int .i64 g.n) ∧ w'.cell? ⟨w5.heap.size, 1, none⟩ = some (.slice A3 g.ls.length k3)) (first | go_keep | exact ⟨cA7, cB7, cX7, cY7⟩ | fail) (first | (go_at_call 28; refine (toG_any _ g _ hv9 hn).mono ?_; rintro e w10 ⟨z, rfl, hO10, hb10'⟩; have cA7 := (hb10'.cell (World.block_lt_of_cell? w9.drew _ cA)).trans cA; have cB7 := (hb10'.cell (World.block_lt_of_cell? w9.drew _ cB)).trans cB; have cX7 := (hb10'.cell (World.block_lt_of_cell? w9.drew _ cX)).trans cX; have cY7 := (hb10'.cell (World.block_lt_of_cell? w9.drew _ cY)).trans cY) | (go_at_call 32; refine (eqG_any _ z g g _ ((X9.out.drew.below hb10').e.ox.grr) hO10.grr hn hn).mono ?_; rintro e w11 ⟨rfl, hb11'⟩; rw [eqB_self]; have cA7 := (hb11'.cell (World.block_lt_of_cell? w10 _ cA7)).trans cA7; have cB7 := (hb11'.cell (World.block_lt_of_cell? w10 _ cB7)).trans cB7; have cX7 := (hb11'.cell (World.block_lt_of_cell? w10 _ cX7)).trans cX7; have cY7 := (hb11'.cell (World.block_lt_of_cell? w10 _ cY7)).trans cY7) | fail)
    have X11 := hide ((X9.out.drew.below hb10').below hb11')
    clear X9 hb10' hb11' hv9 hO10 cX cY cA7 cB7 cX7 cY7 cA cB
    have cA := X11.out.e.e.t3.cell 0
    have cB := X11.out.e.e.t3.cell 1
    have cX := X11.out.e.tz.cell 0
    have cY := X11.out.e.tz.cell 1
    rw [hbZ] at cX cY
    go_wp2_with fail
    refine (toI_any _ ch _ (huu.up X11.out.e.e.bw) hch).mono ?_
    rintro e w12 ⟨c12, rfl, hO12, hb12⟩
    have X12 := hide (X11.out.below hb12)
    clear X11 hb12 cX cY cA cB
    have cA := X12.out.e.e.t3.cell 0
    have cB := X12.out.e.e.t3.cell 1
    have cX := X12.out.e.tz.cell 0
    have cY := X12.out.e.tz.cell 1
    rw [hbZ] at cX cY
    go_wp2_with fail
    refine (eqI_any _ _ ch ch _ (X12.out.oc.slr ic_len) (hO12.slr ic_len) hch hch).mono ?_
    rintro e w13 ⟨rfl, hb13⟩
    rw [eqB_self]
    have X13 := hide (X12.out.below hb13)
    clear X12 hb13 hO12 cX cY cA cB
    have cA := X13.out.e.e.t3.cell 0
    have cB := X13.out.e.e.t3.cell 1
    have cX := X13.out.e.tz.cell 0
    have cY := X13.out.e.tz.cell 1
    rw [hbZ] at cX cY
    obtain ⟨K, hK⟩ : ∃ K : Int, K = 1 + 3 * (g.ls.length : Int) := ⟨_, rfl⟩
    have hK0 : 0 ≤ K := by omega
    have hK1 : K ≤ 1099511627776 := by omega
    go_wp2_with fail
    refine (markG_k _ g _ K _ X13.out.e.ox hn hK).mono ?_
    rintro e w14 ⟨rfl, hom, hm14, hb14⟩
    have E14 := hide (X13.out.mark hm14 hb14)
    clear hom hm14 hb14 X13 cX cY hK cA cB
    have cA := E14.out.e.t3.cell 0
    have cB := E14.out.e.t3.cell 1
    obtain ⟨K2, hK2⟩ : ∃ K2 : Int, K2 = K + (ch.length : Int) := ⟨_, rfl⟩
    have hK20 : 0 ≤ K2 := by omega
    go_wp2_with fail
    refine (markI_n _ ch K K2 _ _ E14.out.oc hch ⟨hK0, hK1⟩ hK2).mono ?_
    rintro e w15 ⟨rfl, hm15⟩
    have E15 := hide (E14.out.markC hm15)
    clear hm15 E14 cA cB hK2
    have cA := E15.out.t3.cell 0
    have cB := E15.out.t3.cell 1
    go_wp2_with fail
    refine (eqI_any _ _ R R _ (E15.out.og.slr ic_len) (E15.out.oy.slr ic_len) hlo hlo).mono ?_
    rintro e w16 ⟨rfl, hb16⟩
    rw [eqB_self]
    have E16 := hide (E15.out.below hb16)
    clear E15 hb16 cA cB
    have cA := E16.out.t3.cell 0
    have cB := E16.out.t3.cell 1
    obtain ⟨M, hM⟩ : ∃ M : Int, M = 1 + (R.length : Int) := ⟨_, rfl⟩
    have hM0 : 0 ≤ M := by omega
    have hMM : (M != M) = false := by simp
    go_wp2_with fail
    refine (markI_k _ R M _ _ E16.out.og hlo hM).mono ?_
    rintro e w17 ⟨rfl, hog, hm17⟩
    have E17 := hide (E16.out.mark hog hm17)
    clear hog hm17 E16 cA cB
    have cA := E17.out.t3.cell 0
    have cB := E17.out.t3.cell 1
    go_wp2_with fail
    refine (heldI_k _ R.length M _ (E17.out.og.slr ic_len) hlo hM).mono ?_
    rintro e w18 ⟨rfl, hw18⟩
    subst hw18
    go_wp2_with fail
    refine (toG_any _ g _ (hvv.up E17.out.bw) hn).mono ?_
    rintro e w19 ⟨x19, rfl, hO19, hb19⟩
    have E19 := hide (E17.out.below hb19)
    clear E17 hb19 cA cB
    have cA := E19.out.t3.cell 0
    have cB := E19.out.t3.cell 1
    go_wp2_with fail
    refine (toI_any _ ch _ (huu.up E19.out.bw) hch).mono ?_
    rintro e w20 ⟨c20, rfl, hC20, hb20⟩
    have E20 := hide (E19.out.below hb20)
    have HO20 := hide (hO19.below hb20)
    clear E19 hb20 hO19 cA cB
    have cA := E20.out.t3.cell 0
    have cB := E20.out.t3.cell 1
    go_wp2_with fail
    refine (mixedLoop_any _ _ g f k ch _ HO20.out.grr hn (hC20.slr ic_len) hch).mono ?_
    rintro e w21 ⟨g21, rfl, hO21, hb21⟩
    rw [HR.out] at hO21
    obtain ⟨A7, k7, rfl, _, _⟩ := hO21.lit
    have E21 := hide (E20.out.below hb21)
    clear E20 HO20 hC20 hb21 cA cB
    have cA := E21.out.t3.cell 0
    have cB := E21.out.t3.cell 1
    go_wp2_with fail
    refine (eqI_any _ _ R R _ (hO21.slr ic_len) (E21.out.oy.slr ic_len) hlo hlo).mono ?_
    rintro e w22 ⟨rfl, hb22⟩
    rw [eqB_self]
    have E22 := hide (E21.out.below hb22)
    clear E21 hb22 hO21 cA cB
    go_wp2_with fail
    refine (heldI_k _ R.length M _ (E22.out.og.slr ic_len) hlo hM).mono ?_
    rintro e w23 ⟨rfl, hw23⟩
    subst hw23
    go_wp2
    go_ret
    exact ⟨rfl, E22.out.bw⟩
  · go_enter Try.func11, Try.ntmps11
    go_wp2_with fail
    refine (szG_over _ g _ (hvv.up hb00) (by omega) hm).mono ?_
    rintro e w1 ⟨rfl, hb1⟩
    go_wp2
    go_ret
    exact ⟨rfl, hb00.trans (hb1.mono hb00.size)⟩
set_option maxRecDepth 100000 in
set_option maxHeartbeats 1600000 in
theorem lawExactMixedArrives (v : Value) (g : Gr) (f k : Int) (u : Value) (ch:List Int) (w : World) (hv : GrR w w.heap.size v g) (hm : g.ls.length ≤ 9223372036854775807) (hu : SlR ic 1 w w.heap.size u ch) (hmu : ch.length ≤ 9223372036854775807) :
    Calls Try.prog 10 #[v, .int .i64 f, .int .i64 k, u] w fun e w' => e = .returned (.bool true) ∧ Below w.heap.size w w' := by
  obtain ⟨R, hR⟩ : ∃ R, arrX g f k ch = R := ⟨_, rfl⟩
  have HR := hide hR
  have hlo : R.length ≤ 1048576 := by rw [← hR]; exact Nat.le_trans (arrX_len8 ..) (by decide)
  clear hR
  have hvv := hv
  obtain ⟨v2, rfl, h2⟩ := hv
  clear h2
  have huu := hu
  obtain ⟨Au, cu, rfl, _, hur⟩ := hu
  clear hur
  have hb00 := below1 w (.cells #[.int .i64 g.n, v2] 41)
  have HB0 := hide (Blk.new w 41 #[.int .i64 g.n, v2])
  by_cases hcl : 1048576 < ch.length
  · go_enter Try.func10, Try.ntmps10
    go_wp2
    go_ret
    exact ⟨rfl, hb00⟩
  have hch : ch.length ≤ 1048576 := by omega
  clear hcl hmu
  by_cases hn : g.ls.length ≤ 1048576
  · have hsz : (0 : Int) ≤ 1048576 - g.ls.length := by omega
    go_enter Try.func10, Try.ntmps10
    go_wp2_with fail
    refine (szG_any _ g _ (hvv.up hb00) hn).mono ?_
    rintro e w1 ⟨rfl, hb1⟩
    have hb01 := hb00.trans (hb1.mono hb00.size)
    have HB1 := hide (HB0.out.up hb1)
    have cA := HB1.out.cell 0
    have cB := HB1.out.cell 1
    clear HB0
    go_wp2_with fail
    refine (toG_any _ g _ (hvv.up hb01) hn).mono ?_
    rintro e w2 ⟨x, rfl, hO1, hb2⟩
    clear cA cB
    have hb02 := hb01.trans (hb2.mono hb01.size)
    have HB2 := hide (HB1.out.up hb2)
    have cA := HB2.out.cell 0
    have cB := HB2.out.cell 1
    clear HB1
    go_wp2_with fail
    refine (toI_any _ ch _ (huu.up hb02) hch).mono ?_
    rintro e w3 ⟨u3, rfl, hU3, hb3⟩
    clear cA cB
    have hb03 := hb02.trans (hb3.mono hb02.size)
    have HB3 := hide (HB2.out.up hb3)
    have cA := HB3.out.cell 0
    have cB := HB3.out.cell 1
    clear HB2
    go_wp2_with fail
    refine (specArrives_any _ _ g f k ch _ (hO1.below hb3).grr hn (hU3.slr ic_len) hch).mono ?_
    rintro e w4 ⟨y, rfl, hOy, hb4⟩
    clear cA cB
    have hb04 := hb03.trans (hb4.mono hb03.size)
    have HB4 := hide (HB3.out.up hb4)
    have cA := HB4.out.cell 0
    have cB := HB4.out.cell 1
    clear HB3
    rw [HR.out] at hOy
    obtain ⟨A1, k1, rfl, _, _⟩ := hOy.lit
    go_wp2_with fail
    refine (toG_any _ g _ (hvv.up hb04) hn).mono ?_
    rintro e w5 ⟨x', rfl, hOx, hb5⟩
    clear cA cB
    have hb05 := hb04.trans (hb5.mono hb04.size)
    have HB5 := hide (HB4.out.up hb5)
    have cA := HB5.out.cell 0
    have cB := HB5.out.cell 1
    clear HB4
    obtain ⟨A3, k3, rfl⟩ := hOx.lit
    have hb6 := below1 w5 (.cells #[.int .i64 g.n, .slice A3 g.ls.length k3] 25)
    have HX6 := hide (Blk.new w5 25 #[.int .i64 g.n, .slice A3 g.ls.length k3])
    clear cA cB
    have hb06 := hb05.trans (hb6.mono hb05.size)
    have HB6 := hide (HB5.out.up hb6)
    have cA := HB6.out.cell 0
    have cB := HB6.out.cell 1
    clear HB5
    go_wp2_with fail
    refine (toI_any _ ch _ (huu.up hb06) hch).mono ?_
    rintro e w7 ⟨c7, rfl, hOc, hb7⟩
    obtain ⟨Ac, kc, rfl, _, _⟩ := hOc.lit
    have HX7 := hide (HX6.out.up hb7)
    clear cA cB
    have hb07 := hb06.trans (hb7.mono hb06.size)
    have HB7 := hide (HB6.out.up hb7)
    have cA := HB7.out.cell 0
    have cB := HB7.out.cell 1
    clear HB6
    have cX := HX7.out.cell 0
    have cY := HX7.out.cell 1
    go_wp2_with fail
    refine (mixedArrives_any _ _ g f k ch _ ((hOx.below hb6).below hb7).grr hn (hOc.slr ic_len) hch).mono ?_
    rintro e w8 ⟨gv, rfl, hOg, hb8⟩
    clear cA cB cX cY
    have hb08 := hb07.trans (hb8.mono hb07.size)
    have HB8 := hide (HB7.out.up hb8)
    have cA := HB8.out.cell 0
    have cB := HB8.out.cell 1
    clear HB7
    have HX8 := hide (HX7.out.up hb8)
    rw [HR.out] at hOg
    obtain ⟨A5, k5, rfl, _, _⟩ := hOg.lit
    have s56 : w5.heap.size ≤ (w5.alloc (.cells #[.int .i64 g.n, .slice A3 g.ls.length k3] 25)).heap.size := hb6.size
    have X8 : ExC w w8 w.heap.size w5.heap.size #[.int .i64 g.n, v2] #[.int .i64 g.n, .slice A3 g.ls.length k3] (.slice A1 R.length k1) (.slice A5 R.length k5) R R (.agg #[.int .i64 g.n, .slice A3 g.ls.length k3]) g (.slice Ac ch.length kc) ch :=
      ⟨⟨⟨hb08, HB8.out, ((((hOy.below hb5).below hb6).below hb7).below hb8).low hb03.size, hOg.low hb07.size, fun q hq hq' => by
        have h1 := (World.ownsRow.lt hOy q hq).2
        have h2 := (World.ownsRow.lt hOg q hq').1
        have h3 := hb5.size
        have h4 := hb7.size
        omega⟩, HX8.out, (((hOx.below hb6).below hb7).below hb8).low hb04.size⟩, (hOc.below hb8).low hb06.size, fun q hq hq' => by
        have h1 := (World.ownsRow.lt hOy q hq).2
        have h2 := (World.ownsRow.lt hOc q hq').1
        have h3 := hb5.size
        omega, fun q hq hq' => by
        have h1 := (World.ownsRow.lt hOg q hq).1
        have h2 := (World.ownsRow.lt hOc q hq').2
        omega⟩
    clear hOy hOx hOg hOc hU3 HX6 HX7 HX8 HB8 hb01 hb02 hb03 hb04 hb05 hb06 hb07 hb08 hb00 hb1 hb2 hb3 hb4 hb5 hb6 hb7 hb8 s56 cA cB hO1
    obtain ⟨bZ, hbZ⟩ : ∃ b, b = w5.heap.size := ⟨_, rfl⟩
    rw [← hbZ] at X8
    have X8 := hide X8
    have cA := X8.out.e.e.t3.cell 0
    have cB := X8.out.e.e.t3.cell 1
    go_wp2_with fail
    refine (eqI_any _ _ R R _ (X8.out.e.e.og.slr ic_len) (X8.out.e.e.oy.slr ic_len) hlo hlo).mono ?_
    rintro e w9 ⟨rfl, hb9⟩
    rw [eqB_self]
    have X9 := hide (X8.out.below hb9)
    clear X8 hb9 cA cB
    have cA := X9.out.e.e.t3.cell 0
    have cB := X9.out.e.e.t3.cell 1
    have cX := X9.out.e.tz.cell 0
    have cY := X9.out.e.tz.cell 1
    rw [hbZ] at cX cY
    go_wp2_with fail
    have hv9 := hvv.up X9.out.e.e.bw.drew
    go_region_held3 (fun w' => w'.cell? ⟨w.heap.size, 0, none⟩ = some (.int .i64 g.n) ∧ w'.cell? ⟨w.heap.size, 1, none⟩ = some v2 ∧ w'.cell? ⟨w5.heap.size, 0, none⟩ = some (.int .i64 g.n) ∧ w'.cell? ⟨w5.heap.size, 1, none⟩ = some (.slice A3 g.ls.length k3)) (first | go_keep | exact ⟨cA7, cB7, cX7, cY7⟩ | fail) (first | (go_at_call 28; refine (toG_any _ g _ hv9 hn).mono ?_; rintro e w10 ⟨z, rfl, hO10, hb10'⟩; have cA7 := (hb10'.cell (World.block_lt_of_cell? w9.drew _ cA)).trans cA; have cB7 := (hb10'.cell (World.block_lt_of_cell? w9.drew _ cB)).trans cB; have cX7 := (hb10'.cell (World.block_lt_of_cell? w9.drew _ cX)).trans cX; have cY7 := (hb10'.cell (World.block_lt_of_cell? w9.drew _ cY)).trans cY) | (go_at_call 32; refine (eqG_any _ z g g _ ((X9.out.drew.below hb10').e.ox.grr) hO10.grr hn hn).mono ?_; rintro e w11 ⟨rfl, hb11'⟩; rw [eqB_self]; have cA7 := (hb11'.cell (World.block_lt_of_cell? w10 _ cA7)).trans cA7; have cB7 := (hb11'.cell (World.block_lt_of_cell? w10 _ cB7)).trans cB7; have cX7 := (hb11'.cell (World.block_lt_of_cell? w10 _ cX7)).trans cX7; have cY7 := (hb11'.cell (World.block_lt_of_cell? w10 _ cY7)).trans cY7) | fail)
    have X11 := hide ((X9.out.drew.below hb10').below hb11')
    clear X9 hb10' hb11' hv9 hO10 cX cY cA7 cB7 cX7 cY7 cA cB
    have cA := X11.out.e.e.t3.cell 0
    have cB := X11.out.e.e.t3.cell 1
    have cX := X11.out.e.tz.cell 0
    have cY := X11.out.e.tz.cell 1
    rw [hbZ] at cX cY
    go_wp2_with fail
    refine (toI_any _ ch _ (huu.up X11.out.e.e.bw) hch).mono ?_
    rintro e w12 ⟨c12, rfl, hO12, hb12⟩
    have X12 := hide (X11.out.below hb12)
    clear X11 hb12 cX cY cA cB
    have cA := X12.out.e.e.t3.cell 0
    have cB := X12.out.e.e.t3.cell 1
    have cX := X12.out.e.tz.cell 0
    have cY := X12.out.e.tz.cell 1
    rw [hbZ] at cX cY
    go_wp2_with fail
    refine (eqI_any _ _ ch ch _ (X12.out.oc.slr ic_len) (hO12.slr ic_len) hch hch).mono ?_
    rintro e w13 ⟨rfl, hb13⟩
    rw [eqB_self]
    have X13 := hide (X12.out.below hb13)
    clear X12 hb13 hO12 cX cY cA cB
    have cA := X13.out.e.e.t3.cell 0
    have cB := X13.out.e.e.t3.cell 1
    have cX := X13.out.e.tz.cell 0
    have cY := X13.out.e.tz.cell 1
    rw [hbZ] at cX cY
    obtain ⟨K, hK⟩ : ∃ K : Int, K = 1 + 3 * (g.ls.length : Int) := ⟨_, rfl⟩
    have hK0 : 0 ≤ K := by omega
    have hK1 : K ≤ 1099511627776 := by omega
    go_wp2_with fail
    refine (markG_k _ g _ K _ X13.out.e.ox hn hK).mono ?_
    rintro e w14 ⟨rfl, hom, hm14, hb14⟩
    have E14 := hide (X13.out.mark hm14 hb14)
    clear hom hm14 hb14 X13 cX cY hK cA cB
    have cA := E14.out.e.t3.cell 0
    have cB := E14.out.e.t3.cell 1
    obtain ⟨K2, hK2⟩ : ∃ K2 : Int, K2 = K + (ch.length : Int) := ⟨_, rfl⟩
    have hK20 : 0 ≤ K2 := by omega
    go_wp2_with fail
    refine (markI_n _ ch K K2 _ _ E14.out.oc hch ⟨hK0, hK1⟩ hK2).mono ?_
    rintro e w15 ⟨rfl, hm15⟩
    have E15 := hide (E14.out.markC hm15)
    clear hm15 E14 cA cB hK2
    have cA := E15.out.t3.cell 0
    have cB := E15.out.t3.cell 1
    go_wp2_with fail
    refine (eqI_any _ _ R R _ (E15.out.og.slr ic_len) (E15.out.oy.slr ic_len) hlo hlo).mono ?_
    rintro e w16 ⟨rfl, hb16⟩
    rw [eqB_self]
    have E16 := hide (E15.out.below hb16)
    clear E15 hb16 cA cB
    have cA := E16.out.t3.cell 0
    have cB := E16.out.t3.cell 1
    obtain ⟨M, hM⟩ : ∃ M : Int, M = 1 + (R.length : Int) := ⟨_, rfl⟩
    have hM0 : 0 ≤ M := by omega
    have hMM : (M != M) = false := by simp
    go_wp2_with fail
    refine (markI_k _ R M _ _ E16.out.og hlo hM).mono ?_
    rintro e w17 ⟨rfl, hog, hm17⟩
    have E17 := hide (E16.out.mark hog hm17)
    clear hog hm17 E16 cA cB
    have cA := E17.out.t3.cell 0
    have cB := E17.out.t3.cell 1
    go_wp2_with fail
    refine (heldI_k _ R.length M _ (E17.out.og.slr ic_len) hlo hM).mono ?_
    rintro e w18 ⟨rfl, hw18⟩
    subst hw18
    go_wp2_with fail
    refine (toG_any _ g _ (hvv.up E17.out.bw) hn).mono ?_
    rintro e w19 ⟨x19, rfl, hO19, hb19⟩
    have E19 := hide (E17.out.below hb19)
    clear E17 hb19 cA cB
    have cA := E19.out.t3.cell 0
    have cB := E19.out.t3.cell 1
    go_wp2_with fail
    refine (toI_any _ ch _ (huu.up E19.out.bw) hch).mono ?_
    rintro e w20 ⟨c20, rfl, hC20, hb20⟩
    have E20 := hide (E19.out.below hb20)
    have HO20 := hide (hO19.below hb20)
    clear E19 hb20 hO19 cA cB
    have cA := E20.out.t3.cell 0
    have cB := E20.out.t3.cell 1
    go_wp2_with fail
    refine (mixedArrives_any _ _ g f k ch _ HO20.out.grr hn (hC20.slr ic_len) hch).mono ?_
    rintro e w21 ⟨g21, rfl, hO21, hb21⟩
    rw [HR.out] at hO21
    obtain ⟨A7, k7, rfl, _, _⟩ := hO21.lit
    have E21 := hide (E20.out.below hb21)
    clear E20 HO20 hC20 hb21 cA cB
    have cA := E21.out.t3.cell 0
    have cB := E21.out.t3.cell 1
    go_wp2_with fail
    refine (eqI_any _ _ R R _ (hO21.slr ic_len) (E21.out.oy.slr ic_len) hlo hlo).mono ?_
    rintro e w22 ⟨rfl, hb22⟩
    rw [eqB_self]
    have E22 := hide (E21.out.below hb22)
    clear E21 hb22 hO21 cA cB
    go_wp2_with fail
    refine (heldI_k _ R.length M _ (E22.out.og.slr ic_len) hlo hM).mono ?_
    rintro e w23 ⟨rfl, hw23⟩
    subst hw23
    go_wp2
    go_ret
    exact ⟨rfl, E22.out.bw⟩
  · go_enter Try.func10, Try.ntmps10
    go_wp2_with fail
    refine (szG_over _ g _ (hvv.up hb00) (by omega) hm).mono ?_
    rintro e w1 ⟨rfl, hb1⟩
    go_wp2
    go_ret
    exact ⟨rfl, hb00.trans (hb1.mono hb00.size)⟩
end Go.Proofs.Ytbhkjeicogjfbaa
