/- l1Without, l2Path, RepairPath and l2Two of the reference. Conditions: the graph is valid, or at most 1048576 links. -/
import Derived.Test.YtenfdekjnelkoaaHopS
import Derived.Test.YtenfdekjnelkoaaPathI
import Derived.Test.YtenfdekjnelkoaaOkS
import Derived.Deep.RegionLaw
namespace Go.Proofs.Ytenfdekjnelkoaa
open Go.RowKit

theorem wo_ls (g : Gr) (k : Nat) : (Wo g k).ls = g.ls.take k ++ g.ls.drop (k + 1) := by
  show g.ls.eraseIdx k = _
  rw [List.eraseIdx_eq_take_drop_succ]
set_option maxRecDepth 100000 in
set_option maxHeartbeats 1600000 in
theorem l1Without_any (v : Value) (g : Gr) (k : Nat) (w : World) (hv : GrR w w.heap.size v g) (hn : g.ls.length ≤ 1048576) (hk : k < g.ls.length) :
    Calls Try.prog 51 #[v, .int .i64 (k : Nat)] w fun e w' => ∃ v', e = .returned v' ∧ OwnG w' w.heap.size v' (Wo g k) ∧ Below w.heap.size w w' := by
  obtain ⟨v2, rfl, h2⟩ := hv
  have h2' := h2
  obtain ⟨A, cap, rfl, hc, hr⟩ := h2'
  obtain ⟨b0, off, rfl, hb0, _⟩ := hr (by omega)
  obtain ⟨B, hB⟩ : ∃ B, B = w.heap.size := ⟨_, rfl⟩
  obtain ⟨wb, hwb⟩ : ∃ wb, wb = (w.alloc (Obj.cells #[.int .i64 g.n, .slice (some ⟨b0, off, none⟩) g.ls.length cap] 25)).alloc (Obj.cells #[.int .i64 0, .slice none 0 0] 25) := ⟨_, rfl⟩
  have hbw : Below w.heap.size w wb := by rw [hwb]; exact below2 _ _ _
  have HB : Hid (Blk wb B 25 #[.int .i64 g.n, .slice (some ⟨b0, off, none⟩) g.ls.length cap]) := hide (by rw [hwb, hB]; exact (Blk.new _ _ _).alloc _)
  have HR : Hid (Blk wb (B + 1) 25 #[.int .i64 0, .slice none 0 0]) := hide (by rw [hwb, hB]; exact Blk.new1 _ _ _ _)
  have hBs : B + 1 < wb.heap.size := HR.out.lt
  have hBw : w.heap.size ≤ B := by omega
  have HS := hide (h2.up hbw)
  have wr1 := ((Below.refl wb.heap.size wb).drew).trans (below1 wb.drew (Obj.cells #[] 35))
  have HE : Hid (Own lc 35 3 (wb.drew.alloc (Obj.cells #[] 35)) wb.heap.size (.slice (some ⟨wb.heap.size, 0, none⟩) 0 0) []) := hide (ownE wb.drew _ (Nat.le_refl _))
  have c0 := HB.out.cell 0
  have c1 := HB.out.cell 1
  have c11 := (HB.out.up wr1).cell 1
  have c10 := (HB.out.up (below1 wb (Obj.cells #[] 35))).cell 1
  have hkw : IntKind.i64.wrap ((k : Int) + 1) = (k : Int) + 1 := by rw [IntKind.wrap_i64]; omega
  have hkc : k ≤ cap := by omega
  have hkc1 : k + 1 ≤ cap := by omega
  have hkl : k + 1 ≤ g.ls.length := hk
  have hkI : (k : Int) ≤ (k : Int) + 1 := by omega
  have hk0 : 0 ≤ (k : Int) + 1 := by omega
  have hkL : (k : Int) + 1 ≤ (g.ls.length : Int) := by omega
  have c12 := (HB.out.up ((Below.refl wb.heap.size wb).drew)).cell 1
  have z1 := HB.out.free 1
  have HW := hide wr1
  have hWL : (Wo g k).ls.length = g.ls.length - 1 := by have := wo_len hk; omega
  have hls := wo_ls g k
  have hln : (g.ls.take k).length = k := by rw [List.length_take]; omega
  have hld : (g.ls.drop (k + 1)).length = g.ls.length - (k + 1) := List.length_drop
  have HLS := hide hls
  have HLN := hide hln
  have HLD := hide hld
  have HWL := hide hWL
  clear h2 hr wr1 hls hln hld hWL
  go_enter Try.func51, Try.ntmps51
  go_upto_region 1 with fail
  rw [← hwb, ← hB]
  clear hwb hB
  by_cases hcap : cap = k + 1
  · subst hcap
    have HLE : Hid ((Wo g k).ls = g.ls.take k ++ []) := hide (by rw [HLS.out, List.drop_eq_nil_of_le (by omega)])
    go_region_law (first
      | (refine step_appN (by rfl) infL2 (.tmp 5) (.tmp 9) (by rfl) _ _ (by rfl) (by rfl) wb [] (g.ls.take k) (g.ls.take k) k rfl HLN.out HE.out HW.out ((HS.out.up HW.out).take (by omega)) (by omega) ?_
         intro A3 c3 w3 hO3 hg3 hb3
         have c13 := (HB.out.up hb3).cell 1
         have HO3 := hide hO3)
      | (refine step_appN (by rfl) infL2 (.tmp 10) (.tmp 15) (by rfl) _ _ (by rfl) (by rfl) wb (g.ls.take k) [] (Wo g k).ls (g.ls.length - 1) HLE.out HWL.out HO3.out hb3 (slr_nil (B := 0)) (by omega) ?_
         intro A4 c4 w4 hO4 hg4 hb4
         have HB4 := hide (HB.out.up hb4)
         have HR4 := hide (HR.out.up hb4)
         have c14 := HB4.out.cell 1
         have z14 := HB4.out.free 1
         have HO4 := hide hO4)
      | fail)
    all_goals
      obtain ⟨wz, hwz⟩ : ∃ wz, wz = w4.setCell ⟨B, 1, none⟩ (.slice A4 (g.ls.length - 1) c4) := ⟨_, rfl⟩
      have HBz : Blk wz B 25 #[.int .i64 g.n, .slice A4 (g.ls.length - 1) c4] := by rw [hwz]; exact HB4.out.put 1 _
      have HRz : Blk wz (B + 1) 25 #[.int .i64 0, .slice none 0 0] := by rw [hwz]; exact HR4.out.far (by show B + 1 ≠ B; omega) _
      have HOz : Own lc 35 3 wz wb.heap.size (.slice A4 (g.ls.length - 1) c4) (Wo g k).ls := by rw [hwz]; exact own_far' HO4.out (own_blk_ne HO4.out HB4.out (by decide)) _
      have hbz : Below w.heap.size w wz := by rw [hwz]; exact (hbw.trans (hb4.mono hbw.size)).setCell (p := ⟨B, 1, none⟩) (by show w.heap.size ≤ B; omega) _
      rw [← hwz]
      have d0 := HBz.cell 0
      have d1 := HBz.cell 1
      have r0 := HRz.cell 0
      have r1 := HRz.cell 1
      have y0 := HRz.free 0
      have y1 := HRz.free 1
      have HOZ := hide HOz
      have HRZ := hide HRz
      clear hwz HBz HRz HOz HB4 HR4 c14 z14 HO4 hO4 hO3 HO3 hg3 hg4 hb3 hb4 c13 c0 c1 c10 c11 c12 z1
      go_wp2_with fail
      have hq := own_blk_ne HOZ.out HRZ.out (by decide)
      refine bodyPost_ret (v := .agg #[.int .i64 g.n, .slice A4 (g.ls.length - 1) c4]) (by simp [results, Try.results51, go_sem, r0, r1]) rfl ⟨_, rfl, ⟨_, rfl, (own_far' (own_far' HOZ.out hq _) hq _).low hbw.size⟩, (hbz.setCell (p := ⟨B + 1, 0, none⟩) (by show w.heap.size ≤ B + 1; omega) _).setCell (p := ⟨B + 1, 1, none⟩) (by show w.heap.size ≤ B + 1; omega) _⟩
  · skip
    go_region_law (first
      | (refine step_appN (by rfl) infL2 (.tmp 5) (.tmp 9) (by rfl) _ _ (by rfl) (by rfl) wb [] (g.ls.take k) (g.ls.take k) k rfl HLN.out HE.out HW.out ((HS.out.up HW.out).take (by omega)) (by omega) ?_
         intro A3 c3 w3 hO3 hg3 hb3
         have c13 := (HB.out.up hb3).cell 1
         have HO3 := hide hO3)
      | (refine step_appN (by rfl) infL2 (.tmp 10) (.tmp 15) (by rfl) _ _ (by rfl) (by rfl) wb (g.ls.take k) (g.ls.drop (k + 1)) (Wo g k).ls (g.ls.length - 1) HLS.out HWL.out HO3.out hb3 ((HS.out.up hb3).drop (by omega) (by omega)) (by omega) ?_
         intro A4 c4 w4 hO4 hg4 hb4
         have HB4 := hide (HB.out.up hb4)
         have HR4 := hide (HR.out.up hb4)
         have c14 := HB4.out.cell 1
         have z14 := HB4.out.free 1
         have HO4 := hide hO4)
      | fail)
    all_goals
      obtain ⟨wz, hwz⟩ : ∃ wz, wz = w4.setCell ⟨B, 1, none⟩ (.slice A4 (g.ls.length - 1) c4) := ⟨_, rfl⟩
      have HBz : Blk wz B 25 #[.int .i64 g.n, .slice A4 (g.ls.length - 1) c4] := by rw [hwz]; exact HB4.out.put 1 _
      have HRz : Blk wz (B + 1) 25 #[.int .i64 0, .slice none 0 0] := by rw [hwz]; exact HR4.out.far (by show B + 1 ≠ B; omega) _
      have HOz : Own lc 35 3 wz wb.heap.size (.slice A4 (g.ls.length - 1) c4) (Wo g k).ls := by rw [hwz]; exact own_far' HO4.out (own_blk_ne HO4.out HB4.out (by decide)) _
      have hbz : Below w.heap.size w wz := by rw [hwz]; exact (hbw.trans (hb4.mono hbw.size)).setCell (p := ⟨B, 1, none⟩) (by show w.heap.size ≤ B; omega) _
      rw [← hwz]
      have d0 := HBz.cell 0
      have d1 := HBz.cell 1
      have r0 := HRz.cell 0
      have r1 := HRz.cell 1
      have y0 := HRz.free 0
      have y1 := HRz.free 1
      have HOZ := hide HOz
      have HRZ := hide HRz
      clear hwz HBz HRz HOz HB4 HR4 c14 z14 HO4 hO4 hO3 HO3 hg3 hg4 hb3 hb4 c13 c0 c1 c10 c11 c12 z1
      go_wp2_with fail
      have hq := own_blk_ne HOZ.out HRZ.out (by decide)
      refine bodyPost_ret (v := .agg #[.int .i64 g.n, .slice A4 (g.ls.length - 1) c4]) (by simp [results, Try.results51, go_sem, r0, r1]) rfl ⟨_, rfl, ⟨_, rfl, (own_far' (own_far' HOZ.out hq _) hq _).low hbw.size⟩, (hbz.setCell (p := ⟨B + 1, 0, none⟩) (by show w.heap.size ≤ B + 1; omega) _).setCell (p := ⟨B + 1, 1, none⟩) (by show w.heap.size ≤ B + 1; omega) _⟩
set_option maxRecDepth 100000 in
set_option maxHeartbeats 1600000 in
theorem l2Path_any (v : Value) (g : Gr) (f t : Int) (w : World) (hv : GrR w w.heap.size v g) (hg : GV g) (hf : Nd g f) (ht : Nd g t) :
    Calls Try.prog 57 #[v, .int .i64 f, .int .i64 t] w fun e w' => ∃ v', e = .returned v' ∧ Own ic 3 1 w' w.heap.size v' (pathL g t f) ∧ Below w.heap.size w w' := by
  have hvv := hv
  obtain ⟨A, cap, rfl, hc, hr⟩ := hv.form
  have HG := hide hg
  have HNF := hide hf
  have HNT := hide ht
  obtain ⟨wb, hwb⟩ : ∃ wb, wb = w.alloc (Obj.cells #[.int .i64 g.n, .slice A g.ls.length cap] 25) := ⟨_, rfl⟩
  have hbw : Below w.heap.size w wb := by rw [hwb]; exact below1 _ _
  have hwbs : wb.heap.size = w.heap.size + 1 := by rw [hwb]; simp
  have HB : Hid (Blk wb w.heap.size 25 #[.int .i64 g.n, .slice A g.ls.length cap]) := hide (by rw [hwb]; exact Blk.new _ _ _)
  have HV := hide (hvv.up hbw)
  obtain ⟨H, hH⟩ : ∃ H, H = pathL g t f := ⟨_, rfl⟩
  have HH := hide hH
  rw [← hH]
  have hE : Own ic 3 1 (wb.alloc (.cells #[.int .i64 f] 3)) wb.heap.size (.slice (some ⟨w.heap.size + 1, 0, none⟩) 1 1) [f] := by rw [← hwbs]; exact own_lit wb f (Nat.le_refl _)
  have h12 := below1 wb (Obj.cells #[.int .i64 f] 3)
  obtain ⟨w2, hw2⟩ : ∃ w2, w2 = wb.alloc (Obj.cells #[.int .i64 f] 3) := ⟨_, rfl⟩
  rw [← hw2] at hE h12
  have HE := hide hE
  clear hv hg hf ht hvv hH hr hE
  go_enter Try.func57, Try.ntmps57
  go_upto_region 2 with fail
  rw [← hwb, ← hw2]
  clear hwb hw2
  by_cases hq : D g t f < 0
  · have HFN : Hid (f ≠ t) := hide fun h => by rw [h, D_self HG.out HNT.out] at hq; omega
    have HHn : Hid (H = []) := hide (by rw [HH.out]; exact pathL_no HG.out HNT.out hq)
    have HHP : Hid (hopL g t f = []) := hide (hopL_far HG.out hq)
    clear hq
    go_loopg [1, 7] (0) (fun gg fv rv wr => gg = 0 ∧ fv = .int .i64 f ∧ wr = w2)
    case atStart => exact ⟨rfl, rfl, rfl⟩
    case round =>
      obtain ⟨hg0, rfl, hw⟩ := hrel
      subst hw
      have e1 : (f != t) = true := by rw [bne_iff_ne]; exact HFN.out
      have c0 := (HB.out.up h12).cell 0
      have c1 := (HB.out.up h12).cell 1
      go_wp2_with fail
      refine (l2Hops_any _ g f t _ (HV.out.up h12) HG.out HNF.out HNT.out).mono ?_
      rintro e w3 ⟨v3, rfl, hO3, hb3⟩
      rw [HHP.out] at hO3
      obtain ⟨A3, k3, rfl, _, _⟩ := hO3.lit
      have hbf := h12.trans (hb3.mono h12.size)
      clear hO3 c0 c1
      go_wp2
      go_ret
      exact ⟨_, rfl, by rw [HHn.out]; exact ownE _ _ (Nat.le_trans hbw.size hbf.size), hbw.trans ((hbf.trans ((below1 _ _).mono hbf.size)).mono hbw.size)⟩
  · have HQ0 : Hid (0 ≤ D g t f) := hide (by omega)
    clear hq
    go_loopg [1, 7] ((D g t f).toNat) (fun gg fv rv wr => ∃ (z : Int) (L : List Int) (A5 : Option Addr) (c5 : Nat), Hid (Nd g z ∧ 0 ≤ D g t z ∧ gg = (D g t z).toNat) ∧ fv = .int .i64 z ∧ rv = .slice A5 L.length c5 ∧ Below wb.heap.size wb wr ∧ Hid (Way g t f z L) ∧ Hid (Own ic 3 1 wr wb.heap.size (.slice A5 L.length c5) L))
    case atStart => exact ⟨f, [f], _, _, hide ⟨HNF.out, HQ0.out, rfl⟩, rfl, rfl, h12, hide (way_start g t f), HE⟩
    case round =>
      clear HE h12
      obtain ⟨z, L, A5, c5, HZ, rfl, rfl, hbe, HW, HO⟩ := hrel
      by_cases hzt : z = t
      · have e1 : (z != t) = false := by simp [hzt]
        have HHL : Hid (H = L) := hide (by rw [HH.out]; exact pathL_is (Way.stop (by have := HW.out; rwa [hzt] at this)))
        clear hzt
        go_wp2
        go_ret
        exact ⟨_, rfl, by rw [HHL.out]; exact HO.out.low hbw.size, hbw.trans (hbe.mono hbw.size)⟩
      · have e1 : (z != t) = true := by simp [hzt]
        obtain ⟨hz1, hz2, hz3⟩ := HZ.out
        obtain ⟨m, tl, hh, hp⟩ := hopL_ne HG.out HNT.out hz1 hz2 hzt
        have hpl := hp.lt HG.out
        have HW1 := hide (HW.out.step hzt hh)
        have HZ1 : Hid (Nd g m ∧ 0 ≤ D g t m ∧ (D g t m).toNat < gk) := hide ⟨hpl.2.1, hpl.2.2.1, by omega⟩
        have HHH := hide hh
        have HZN := hide hz1
        have c0 := (HB.out.up hbe).cell 0
        have c1 := (HB.out.up hbe).cell 1
        have hL8 : (L ++ [m]).length ≤ 8 := HW1.out.len HG.out HNT.out hpl.2.1 hpl.2.2.1
        clear hh hp hpl hz1 hz2 hz3 hzt
        go_wp2_with fail
        refine (l2Hops_any _ g z t _ (HV.out.up hbe) HG.out HZN.out HNT.out).mono ?_
        rintro e w3 ⟨v3, rfl, hO3, hb3⟩
        rw [HHH.out] at hO3
        obtain ⟨o3, k3, rfl, _, _⟩ := hO3.form (by simp)
        have x3 := own_int hO3 (i := 0) (v := m) rfl
        have HO3 := hide (HO.out.below hb3)
        have hbe3 := hbe.trans (hb3.mono hbe.size)
        have e0 : (((m :: tl).length : Int) == 0) = false := by rw [beq_eq_false_iff_ne]; simp; omega
        have hpos : 0 < (m :: tl).length := by simp
        obtain ⟨M, hM⟩ : ∃ M, M = (m :: tl).length := ⟨_, rfl⟩
        rw [← hM] at e0 hpos
        rw [← hM]
        clear hO3 HO hb3 c0 c1 hM
        obtain ⟨L1, hL1⟩ : ∃ L1, L1 = L ++ [m] := ⟨_, rfl⟩
        rw [← hL1] at HW1 hL8
        have HL1 := hide hL1
        clear hL1
        go_upto_region 7 with fail
        go_wp2_with (at_builtin; refine wpList_appN (by rfl) infI (.tmp 25) (.tmp 27) (by rfl) _ _ (by rfl) (by rfl) wb L [m] L1 L1.length HL1.out rfl (HO3.out.below (below1 _ _)) (hbe3.trans ((below1 _ _).mono hbe3.size)) (slr_lit _ _) (by omega) ?_; intro Ay capy w4 hO4 hg4 hb4)
        have HO4 := hide hO4
        clear hO4 hg4 HO3 x3
        go_roundg ((D g t m).toNat)
        case measure => exact HZ1.out.2.2
        case rel => exact ⟨m, L1, _, _, hide ⟨HZ1.out.1, HZ1.out.2.1, rfl⟩, rfl, rfl, hb4, HW1, HO4⟩
set_option maxRecDepth 100000 in
set_option maxHeartbeats 800000 in
theorem specPath_any (v : Value) (g : Gr) (f k t : Int) (w : World) (hv : GrR w w.heap.size v g) (hm : g.ls.length ≤ 1048576) :
    Calls Try.prog 23 #[v, .int .i64 f, .int .i64 k, .int .i64 t] w fun e w' => ∃ v', e = .returned v' ∧ Own ic 3 1 w' w.heap.size v' (repL g f k t) ∧ Below w.heap.size w w' := by
  obtain ⟨R, hR⟩ : ∃ R, R = repL g f k t := ⟨_, rfl⟩
  rw [← hR]
  have HR := hide hR
  have hvv := hv
  obtain ⟨A, cap, rfl, hc, hr⟩ := hv.form
  obtain ⟨wb, hwb⟩ : ∃ wb, wb = w.alloc (Obj.cells #[.int .i64 g.n, .slice A g.ls.length cap] 25) := ⟨_, rfl⟩
  have hbw : Below w.heap.size w wb := by rw [hwb]; exact below1 _ _
  have HB : Hid (Blk wb w.heap.size 25 #[.int .i64 g.n, .slice A g.ls.length cap]) := hide (by rw [hwb]; exact Blk.new _ _ _)
  have HV := hide (hvv.up hbw)
  clear hr hvv hv hR
  go_enter Try.func23, Try.ntmps23
  go_wp2_with fail
  rw [← hwb]
  clear hwb
  refine (l21Ok_any _ g f k t _ HV.out hm).mono ?_
  rintro e w1 ⟨rfl, hb1⟩
  have HB1 := hide (HB.out.up hb1)
  have HV1 := hide (HV.out.up hb1)
  have hb01 := hbw.trans (hb1.mono hbw.size)
  clear HB HV hb1 hbw
  have c0 := HB1.out.cell 0
  have c1 := HB1.out.cell 1
  by_cases hA : Ok g f k ∧ Nd g t
  · rw [tb_yes hA]
    obtain ⟨kn, rfl⟩ := Int.eq_ofNat_of_zero_le hA.1.2.1.1
    have hkl : kn < g.ls.length := by have := hA.1.2.1.2; omega
    have HA := hide hA
    clear hA
    go_wp2_with fail
    refine (l1Without_any _ g kn _ HV1.out hm hkl).mono ?_
    rintro e w2 ⟨v2, rfl, hO2, hb2⟩
    obtain ⟨A2, c2, rfl⟩ := hO2.lit
    have hb02 := hb01.trans (hb2.mono hb01.size)
    have HG2 := hide hO2.grr
    have hw := wo_gv HA.out.1.1 kn
    have HW := hide hw
    clear hO2 c0 c1 hw hb2
    go_wp2_with fail
    refine (l2Path_any _ (Wo g kn) f t _ HG2.out HW.out (wo_nd.2 HA.out.1.2.2) (wo_nd.2 HA.out.2)).mono ?_
    rintro e w3 ⟨v3, rfl, hO3, hb3⟩
    have HO3 := hide hO3
    have HRE : Hid (R = pathL (Wo g kn) t f) := hide (by rw [HR.out, repL, okL_yes HA.out, Int.toNat_natCast])
    clear hO3
    go_wp2
    go_ret
    exact ⟨_, rfl, by rw [HRE.out]; exact HO3.out.low hb02.size, hb02.trans (hb3.mono hb02.size)⟩
  · rw [tb_no hA]
    have HA := hide hA
    clear hA
    go_wp2
    go_ret
    exact ⟨_, rfl, by rw [HR.out, repL, okL_no HA.out]; exact ownE _ _ hb01.size, hb01.trans ((below1 _ _).mono hb01.size)⟩
end Go.Proofs.Ytenfdekjnelkoaa
