/- The program's TableAdd: addT. Conditions: at most 1048576 routes and hops. -/
import Derived.Test.YtlkchocjldllgaaRemI
import Derived.Test.YtlkchocjldllgaaIns2
namespace Go.Proofs.Ytlkchocjldllgaa
open Go.RowKit

theorem addT_known {t : Tab} {r : Rt} (hV : TV t) (hR : RV r t.hops.length) (h : Kn t.routes r) : addT t r = (⟨t.routes.set (posR t.routes r) r, t.hops⟩, true) := by
  obtain ⟨q, h1, h2⟩ := h
  have h3 := insL_same h1 h2
  rw [addT_yes hV hR (by rw [h3, List.length_set]; exact hV.len.2), h3]
theorem addT_new {t : Tab} {r : Rt} (hV : TV t) (hR : RV r t.hops.length) (h : ¬ Kn t.routes r) :
    (t.routes.length < 10 → addT t r = (⟨t.routes.take (posR t.routes r) ++ r :: t.routes.drop (posR t.routes r), t.hops⟩, true)) ∧ (t.routes.length = 10 → addT t r = (t, false)) := by
  have h1 := insL_new (kn_no hV.vl.pw h).1
  have h2 := posR_le t.routes r
  have h3 : (insL t.routes r).length = t.routes.length + 1 := by
    rw [h1]
    simp
    omega
  refine ⟨fun h4 => ?_, fun h4 => ?_⟩
  · rw [addT_yes hV hR (by omega), h1]
  · exact addT_full hV hR (by omega)
set_option maxRecDepth 100000 in
set_option maxHeartbeats 3200000 in
theorem add_any (v : Value) (t : Tab) (r : Rt) (w : World) (hv : TbR w w.heap.size v t) (hn : t.routes.length ≤ 1048576 ∧ t.hops.length ≤ 1048576) :
    Calls Try.prog 44 #[v, .agg #[.int .i64 r.pre, .int .i64 r.bits, .int .i64 r.hop]] w fun e w' => ∃ v', e = .returned (.tuple #[v', .bool (addT t r).2]) ∧ OwnT w' w.heap.size v' (addT t r).1 ∧ Below w.heap.size w w' := by
  have hvv := hv
  obtain ⟨v1, v2, rfl, hs1, hs2⟩ := hv
  obtain ⟨A1, cap1, rfl, hc1, hr1⟩ := hs1
  obtain ⟨A2, cap2, rfl, _, _⟩ := hs2
  have hn1 := hn.1
  have hn2 := hn.2
  obtain ⟨nl, hnl⟩ : ∃ nl, nl = Value.slice none 0 0 := ⟨_, rfl⟩
  obtain ⟨wb, hwb⟩ : ∃ wb, wb = ((w.alloc (Obj.cells #[.slice A1 t.routes.length cap1, .slice A2 t.hops.length cap2] 30)).alloc (Obj.cells #[.int .i64 r.pre, .int .i64 r.bits, .int .i64 r.hop] 40)).alloc (Obj.cells #[nl, nl] 30) := ⟨_, rfl⟩
  have hbw : Below w.heap.size w wb := by rw [hwb]; exact below3 _ _ _ _
  have BT : Blk wb w.heap.size 30 #[.slice A1 t.routes.length cap1, .slice A2 t.hops.length cap2] := by rw [hwb]; exact ((Blk.new _ _ _).alloc _).alloc _
  have BR : Blk wb (w.heap.size + 1) 40 #[.int .i64 r.pre, .int .i64 r.bits, .int .i64 r.hop] := by
    have h := (Blk.new (w.alloc (Obj.cells #[.slice A1 t.routes.length cap1, .slice A2 t.hops.length cap2] 30)) 40 #[.int .i64 r.pre, .int .i64 r.bits, .int .i64 r.hop]).alloc (Obj.cells #[nl, nl] 30)
    rw [hwb]; simpa using h
  have BO : Blk wb (w.heap.size + 1 + 1) 30 #[nl, nl] := by
    have h := Blk.new ((w.alloc (Obj.cells #[.slice A1 t.routes.length cap1, .slice A2 t.hops.length cap2] 30)).alloc (Obj.cells #[.int .i64 r.pre, .int .i64 r.bits, .int .i64 r.hop] 40)) 30 #[nl, nl]
    rw [hwb]; simpa using h
  rw [hnl] at hwb
  go_enter Try.func44, Try.ntmps44
  go_wp2_with fail
  rw [← hwb]
  clear hwb
  refine (tableValid_any _ t _ (hvv.up hbw) hn).mono ?_
  rintro e w1 ⟨rfl, hb1⟩
  have HT1 := hide (BT.up hb1)
  have HR1 := hide (BR.up hb1)
  have HO1 := hide (BO.up hb1)
  have hb01 := hbw.trans (hb1.mono hbw.size)
  have ltO := (BO.up hb1).lt
  clear BT BR BO hb1 hbw
  by_cases hV : TV t
  · rw [tb_yes hV]
    have HV := hide hV
    clear hV
    have t0 := HT1.out.cell 0
    have t1 := HT1.out.cell 1
    have r0 := HR1.out.cell 0
    have r1 := HR1.out.cell 1
    have r2 := HR1.out.cell 2
    go_wp2_with fail
    refine (routeValid_any r t.hops.length _ ⟨by omega, by omega⟩).mono ?_
    rintro e w2 ⟨rfl, hb2⟩
    have HT2 := hide (HT1.out.up hb2)
    have HR2 := hide (HR1.out.up hb2)
    have HO2 := hide (HO1.out.up hb2)
    have hb02 := hb01.trans (hb2.mono hb01.size)
    have ltO2 := (HO2.out).lt
    clear HT1 HR1 HO1 hb2 hb01 t0 t1 r0 r1 r2 ltO
    by_cases hR : RV r t.hops.length
    · rw [tb_yes hR]
      have HR := hide hR
      clear hR
      have t0 := HT2.out.cell 0
      have t1 := HT2.out.cell 1
      go_wp2_with fail
      refine (copyTable_any _ t _ (hvv.up hb02) hn).mono ?_
      rintro e w3 ⟨c, rfl, hO3, hb3⟩
      obtain ⟨x1, x2, rfl, hx1, hx2, hsep⟩ := hO3
      obtain ⟨B1, cp1, rfl, _, _⟩ := hx1.lit
      obtain ⟨B2, cp2, rfl, _, _⟩ := hx2.lit
      have hb03 := hb02.trans (hb3.mono hb02.size)
      obtain ⟨wc, hwc⟩ : ∃ wc, wc = w3.alloc (Obj.cells #[.slice B1 t.routes.length cp1, .slice B2 t.hops.length cp2] 30) := ⟨_, rfl⟩
      have h3c : Below w3.heap.size w3 wc := by rw [hwc]; exact below1 _ _
      obtain ⟨C, hC⟩ : ∃ C, C = w3.heap.size := ⟨_, rfl⟩
      have hBC : Blk wc C 30 #[.slice B1 t.routes.length cp1, .slice B2 t.hops.length cp2] := by rw [hwc, hC]; exact Blk.new _ _ _
      have h0c := hb03.trans (h3c.mono hb03.size)
      have hX1 := hx1.below h3c
      have hX2 := hx2.below h3c
      have hOc := (HO2.out.up hb3).up h3c
      have hRc := (HR2.out.up hb3).up h3c
      have hVL : t.routes.length ≤ 10 := HV.out.len.2
      have hlo : ∀ q, (Value.slice B1 t.routes.length cp1).ownBlock = some q → w2.heap.size ≤ q ∧ q < C := fun q hq => by rw [hC]; exact World.ownsRow.lt hx1 q hq
      have hlo2 : ∀ q, (Value.slice B2 t.hops.length cp2).ownBlock = some q → w2.heap.size ≤ q ∧ q < C := fun q hq => by rw [hC]; exact World.ownsRow.lt hx2 q hq
      have hC1 : w2.heap.size ≤ C := by rw [hC]; exact hb3.size
      have HOc := hide hOc
      have HRc := hide hRc
      have HBC := hide hBC
      have HX1 := hide hX1
      have HX2 := hide hX2
      have HLO := hide (And.intro hlo (And.intro hlo2 hsep))
      clear hb3 hb03 hx1 hx2 hX1 hX2 hOc hRc hBC t0 t1 HT2 HO2 HR2 h3c hsep hlo hlo2
      go_upto_region 4 with fail
      rw [← hwc, ← hC]
      clear hwc hC
      have c0 := HBC.out.cell 0
      have r0 := HRc.out.cell 0
      have r1 := HRc.out.cell 1
      have r2 := HRc.out.cell 2
      go_wp2_with fail
      refine (bin_any _ t.routes r _ (HX1.out.slr rc_len) hn1 HV.out.vl.pw).mono ?_
      rintro e w4 ⟨rfl, hb4⟩
      have HB4 := hide (HBC.out.up hb4)
      have HO4 := hide (HOc.out.up hb4)
      have HR4 := hide (HRc.out.up hb4)
      have HY1 := hide (HX1.out.below hb4)
      have HY2 := hide (HX2.out.below hb4)
      have hb04 := h0c.trans (hb4.mono h0c.size)
      clear c0 r0 r1 r2 HBC HOc HRc HX1 HX2 hb4 h0c
      by_cases hk : Kn t.routes r
      · rw [tb_yes hk]
        have HADD := hide (addT_known HV.out HR.out hk)
        obtain ⟨q, hq, _⟩ := kn_yes hk
        have hkl := get_lt hq
        obtain ⟨k, hkk⟩ : ∃ k, k = posR t.routes r := ⟨_, rfl⟩
        rw [← hkk] at hkl HADD hq
        rw [← hkk]
        have HQ := hide hq
        clear hk hq hkk
        obtain ⟨g, cg, hx, hg1, hg2⟩ := HY1.out.form (by omega)
        have hA : B1 = some ⟨g, 0, none⟩ := by injection hx
        subst hA
        clear hx
        have hgC := HLO.out.1 g rfl
        have c0 := HB4.out.cell 0
        have r0 := HR4.out.cell 0
        have r1 := HR4.out.cell 1
        have r2 := HR4.out.cell 2
        obtain ⟨⟨u0, q0⟩, z0⟩ := HY1.out.slot (k := k) (j := 0) rfl hkl (by decide)
        obtain ⟨⟨u1, q1⟩, z1⟩ := HY1.out.slot (k := k) (j := 1) rfl hkl (by decide)
        obtain ⟨⟨u2, q2⟩, z2⟩ := HY1.out.slot (k := k) (j := 2) rfl hkl (by decide)
        rw [Nat.add_zero] at q0 z0
        have HS := hide (own_set3 (r := r) HY1.out rfl HQ.out)
        go_upto_region 10 with fail
        obtain ⟨ws, hws⟩ : ∃ ws, ws = ((w4.setCell ⟨g, k * 3, none⟩ (.int .i64 r.pre)).setCell ⟨g, k * 3 + 1, none⟩ (.int .i64 r.bits)).setCell ⟨g, k * 3 + 2, none⟩ (.int .i64 r.hop) := ⟨_, rfl⟩
        have hSS : Own rc 40 3 ws w2.heap.size (.slice (some ⟨g, 0, none⟩) t.routes.length cp1) (t.routes.set k r) := by rw [hws]; exact HS.out
        have hCs : Blk ws C 30 #[.slice (some ⟨g, 0, none⟩) t.routes.length cp1, .slice B2 t.hops.length cp2] := by
          rw [hws]; exact ((HB4.out.far (by simp; omega) _).far (by simp; omega) _).far (by simp; omega) _
        have hOs : Blk ws (w.heap.size + 1 + 1) 30 #[nl, nl] := by
          rw [hws]; exact ((HO4.out.far (by simp; omega) _).far (by simp; omega) _).far (by simp; omega) _
        have hX2s : Own ic 3 1 ws w2.heap.size (.slice B2 t.hops.length cp2) t.hops := by
          have hn3 : ∀ q, (Value.slice B2 t.hops.length cp2).ownBlock = some q → q ≠ g := fun q hq e => HLO.out.2.2 g rfl (e ▸ hq)
          rw [hws]; exact own_far (own_far (own_far HY2.out hn3 _) hn3 _) hn3 _
        have hbs : Below w.heap.size w ws := by
          rw [hws]; exact ((hb04.setCell (by simp; omega) _).setCell (by simp; omega) _).setCell (by simp; omega) _
        rw [← hws]
        clear hws q0 q1 q2 z0 z1 z2 c0 r0 r1 r2 HS HB4 HO4 HR4 HY1 HY2 hb04
        have c0 := hCs.cell 0
        have c1 := hCs.cell 1
        have o0 := hOs.cell 0
        have o1 := hOs.cell 1
        have y0 := hOs.free 0
        have y1 := hOs.free 1
        go_wp2_with fail
        refine bodyPost_ret (v := .tuple #[.agg #[.slice (some ⟨g, 0, none⟩) t.routes.length cp1, .slice B2 t.hops.length cp2], .bool true]) (by simp [results, Try.results44, go_sem, o0, o1]) rfl ⟨_, by rw [HADD.out], by rw [HADD.out]; exact ownT_far hSS hX2s HLO.out.2.2 (by omega) (by omega), (hbs.setCell (by simp; omega) _).setCell (by simp; omega) _⟩
      · rw [tb_no hk]
        obtain ⟨ha1, ha2⟩ := addT_new HV.out HR.out hk
        have hkl := posR_le t.routes r
        obtain ⟨k, hkk⟩ : ∃ k, k = posR t.routes r := ⟨_, rfl⟩
        rw [← hkk] at ha1 hkl
        rw [← hkk]
        clear hk hkk
        by_cases h10 : t.routes.length = 10
        · have HADD := hide (ha2 h10)
          have c0 := HB4.out.cell 0
          have c1 := HB4.out.cell 1
          have o0 := HO4.out.cell 0
          have o1 := HO4.out.cell 1
          have y0 := HO4.out.free 0
          have y1 := HO4.out.free 1
          have e10 : ((t.routes.length : Int) == 10) = true := by simp [h10]
          clear ha1 ha2 h10
          go_wp2_with fail
          refine bodyPost_ret (v := .tuple #[.agg #[.slice (B1) t.routes.length cp1, .slice B2 t.hops.length cp2], .bool false]) (by simp [results, Try.results44, go_sem, o0, o1]) rfl ⟨_, by rw [HADD.out], by rw [HADD.out]; exact ownT_far HY1.out HY2.out HLO.out.2.2 (by omega) (by omega), (hb04.setCell (by simp; omega) _).setCell (by simp; omega) _⟩
        · have HADD := hide (ha1 (by omega))
          have e10 : ((t.routes.length : Int) == 10) = false := by simp; omega
          clear ha1 ha2 h10
          have c0 := HB4.out.cell 0
          have r0 := HR4.out.cell 0
          have r1 := HR4.out.cell 1
          have r2 := HR4.out.cell 2
          have z0 := HB4.out.free 0
          go_wp2_with fail
          have hbv := below1 w4 (Obj.cells #[.int .i64 r.pre, .int .i64 r.bits, .int .i64 r.hop] 40)
          refine (ins_any _ t.routes r k w4.heap.size w2.heap.size _ (HY1.out.below hbv) hn1 (Blk.new w4 40 #[.int .i64 r.pre, .int .i64 r.bits, .int .i64 r.hop]) (fun h => by have := (World.ownsRow.lt HY1.out _ h).2; omega) hkl (by have := hb04.size; have := HB4.out.lt; simp; omega)).mono ?_
          rintro e w5 ⟨A5, cp5, rfl, hO5, hg5⟩
          have hB4v := HB4.out.up hbv
          have hO4v := HO4.out.up hbv
          have hY2v := HY2.out.below hbv
          have hne : ∀ q, (Value.slice B1 t.routes.length cp1).ownBlock = some q → w2.heap.size ≤ q ∧ q < C := HLO.out.1
          have hB5 := hB4v.grown hg5 (fun h => by have := hne C h.symm; omega)
          have hR5 := hO4v.grown hg5 (fun h => by have := hne _ h.symm; omega)
          have hY5 := own_grown hY2v hg5 (fun q hq h => HLO.out.2.2 q h hq)
          have hb4v := hb04.trans (hbv.mono hb04.size)
          have hb05 : Below w.heap.size w w5 := hb4v.grown hg5 hb4v.size (fun q hq => by have := hne q hq; omega)
          have hC5 := own_blk_ne hO5 hB5 (by decide)
          have hO6 := own_far' (i := 0) hO5 hC5 (.slice A5 (t.routes.length + 1) cp5)
          have hY6 := own_far' (i := 0) hY5 (fun h => by have := HLO.out.2.1 C h; omega) (.slice A5 (t.routes.length + 1) cp5)
          have hsep6 := own_types hO6 hY6 (by decide)
          have hb06 := hb05.setCell (p := ⟨C, 0, none⟩) (by show w.heap.size ≤ C; omega) (.slice A5 (t.routes.length + 1) cp5)
          have hB6 := hB5.put 0 (.slice A5 (t.routes.length + 1) cp5)
          have hR6 := hR5.far (p := ⟨C, 0, none⟩) (by show w.heap.size + 1 + 1 ≠ C; omega) (.slice A5 (t.routes.length + 1) cp5)
          have f0 := hB5.cell 0
          have f1 := hB5.free 0
          have HE := hide (And.intro hO6 (And.intro hY6 (And.intro hsep6 (And.intro hb06 (And.intro hB6 hR6)))))
          clear hO5 hO6 hY5 hY6 hb05 hb06 hg5 HB4 HO4 HY1 HY2 hb04 hB5 hR5 hB4v hO4v hY2v hne hb4v hC5 hsep6 hB6 hR6 hbv c0 r0 r1 r2 z0
          go_upto_region 10 with fail
          obtain ⟨w6, hw6⟩ : ∃ w6, w6 = w5.setCell ⟨C, 0, none⟩ (.slice A5 (t.routes.length + 1) cp5) := ⟨_, rfl⟩
          rw [← hw6] at HE
          rw [← hw6]
          clear hw6 f0 f1
          have c0 := HE.out.2.2.2.2.1.cell 0
          have c1 := HE.out.2.2.2.2.1.cell 1
          have o0 := HE.out.2.2.2.2.2.cell 0
          have o1 := HE.out.2.2.2.2.2.cell 1
          have y0 := HE.out.2.2.2.2.2.free 0
          have y1 := HE.out.2.2.2.2.2.free 1
          go_wp2_with fail
          refine bodyPost_ret (v := .tuple #[.agg #[.slice (A5) (t.routes.length + 1) cp5, .slice B2 t.hops.length cp2], .bool true]) (by simp [results, Try.results44, go_sem, o0, o1]) rfl ⟨_, by rw [HADD.out], by rw [HADD.out]; exact ownT_far HE.out.1 HE.out.2.1 HE.out.2.2.1 (by omega) (by omega), (HE.out.2.2.2.1.setCell (by simp; omega) _).setCell (by simp; omega) _⟩
    · rw [tb_no hR]
      have HRN := hide hR
      clear hR
      have HNO : Hid (addT t r = (⟨[], []⟩, false)) := hide (addT_no (fun h => HRN.out h.2))
      have o0 := HO2.out.cell 0
      have o1 := HO2.out.cell 1
      have z0 := HO2.out.free 0
      have z1 := HO2.out.free 1
      go_wp2_with fail
      refine bodyPost_ret (v := .tuple #[.agg #[.slice none 0 0, .slice none 0 0], .bool false]) (by simp [results, Try.results44, go_sem, o0, o1]) rfl ⟨_, by rw [HNO.out], by rw [HNO.out]; exact ownT_nil _ _, ?_⟩
      exact (hb02.setCell (by simp; omega) _).setCell (by simp; omega) _
  · rw [tb_no hV]
    have HVN := hide hV
    clear hV
    have HNO : Hid (addT t r = (⟨[], []⟩, false)) := hide (addT_no (fun h => HVN.out h.1))
    have o0 := HO1.out.cell 0
    have o1 := HO1.out.cell 1
    have z0 := HO1.out.free 0
    have z1 := HO1.out.free 1
    go_wp2_with fail
    refine bodyPost_ret (v := .tuple #[.agg #[.slice none 0 0, .slice none 0 0], .bool false]) (by simp [results, Try.results44, go_sem, o0, o1]) rfl ⟨_, by rw [HNO.out], by rw [HNO.out]; exact ownT_nil _ _, ?_⟩
    exact (hb01.setCell (by simp; omega) _).setCell (by simp; omega) _
end Go.Proofs.Ytlkchocjldllgaa
