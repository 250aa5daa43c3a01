/- GraphWithout of the program, l1Without of the reference: Wo. Conditions: at most 1048576 links. -/
import Derived.Test.YtbhkjeicogjfbaaWithout
import Derived.Deep.RegionLaw
namespace Go.Proofs.Ytbhkjeicogjfbaa
open Go.RowKit

noncomputable def woX (g : Gr) (k : Int) : Gr := open Classical in if GV g ∧ Ix g k then Wo g k.toNat else ⟨0, []⟩
theorem woX_yes {g : Gr} {k : Int} (h : GV g ∧ Ix g k) : woX g k = Wo g k.toNat := if_pos h
theorem woX_no {g : Gr} {k : Int} (h : ¬ (GV g ∧ Ix g k)) : woX g k = ⟨0, []⟩ := if_neg h
set_option maxRecDepth 100000 in
set_option maxHeartbeats 1600000 in
theorem without_any (v : Value) (g : Gr) (k : Int) (w : World) (hv : GrR w w.heap.size v g) (hm : g.ls.length ≤ 1048576) :
    Calls Try.prog 24 #[v, .int .i64 k] w fun e w' => ∃ v', e = .returned (.tuple #[v', .bool (tb (GV g ∧ Ix g k))]) ∧ OwnG w' w.heap.size v' (woX g k) ∧ Below w.heap.size w w' := by
  have hvv := hv
  obtain ⟨A, cap, rfl, hc, hr⟩ := hv.form
  obtain ⟨B, hB⟩ : ∃ B, B = w.heap.size := ⟨_, rfl⟩
  obtain ⟨wb, hwb⟩ : ∃ wb, wb = ((w.alloc (Obj.cells #[.int .i64 g.n, .slice A g.ls.length cap] 25)).alloc (Obj.cells #[.int .i64 k] 3)).alloc (Obj.cells #[.int .i64 0, .slice none 0 0] 25) := ⟨_, rfl⟩
  have hbw : Below w.heap.size w wb := by rw [hwb]; exact below3 _ _ _ _
  have HB : Hid (Blk wb B 25 #[.int .i64 g.n, .slice A g.ls.length cap]) := hide (by rw [hwb, hB]; exact ((Blk.new _ _ _).alloc _).alloc _)
  have HI : Hid (Blk wb (B + 1) 3 #[.int .i64 k]) := hide (by rw [hwb, hB]; exact (Blk.new1 w _ _ _).alloc _)
  have HR : Hid (Blk wb (B + 1 + 1) 25 #[.int .i64 0, .slice none 0 0]) := hide (by
    rw [hwb, hB]
    have h := Blk.new ((w.alloc (Obj.cells #[.int .i64 g.n, .slice A g.ls.length cap] 25)).alloc (Obj.cells #[.int .i64 k] 3)) 25 #[.int .i64 0, .slice none 0 0]
    simpa using h)
  have HV := hide (hvv.up hbw)
  have hmf : ∀ (fn : Fn) (first cap : Array Value) (w : World), (Instr.makeFunc fn first cap).run Try.prog w = .ok (.func fn first cap) w := fun _ _ _ _ => rfl
  have c0 := HB.out.cell 0
  have c1 := HB.out.cell 1
  have c2 := HI.out.cell 0
  clear hr hv hvv
  go_enter Try.func24, Try.ntmps24
  go_upto_region 1 with fail
  rw [← hwb, ← hB]
  have hBw : w.heap.size ≤ B := by omega
  clear hwb hB
  go_wp2_with fail
  refine (hasLink_any _ g _ _ HV.out hm).mono ?_
  rintro e w1 ⟨rfl, hb1⟩
  have HB1 := hide (HB.out.up hb1)
  have HI1 := hide (HI.out.up hb1)
  have HR1 := hide (HR.out.up hb1)
  have HV1 := hide (HV.out.up hb1)
  have hb01 := hbw.trans (hb1.mono hbw.size)
  clear HB HI HR HV hb1 hbw c0 c1 c2
  by_cases hA : GV g ∧ Ix g k
  · rw [tb_yes hA]
    have HW := hide (woX_yes hA)
    have hk := hA.2.1
    have HK := hide (keep_any (B + 1) (.agg #[.int .i64 g.n, .slice A g.ls.length cap]) g k.toNat w1 HV1.out hm (by rw [Int.toNat_of_nonneg hk]; exact HI1.out))
    have HA := hide hA
    clear hA hk
    have c0 := HB1.out.cell 0
    have c1 := HB1.out.cell 1
    have c2 := HI1.out.cell 0
    go_wp2_with fail
    refine HK.out.mono ?_
    rintro e w2 ⟨v2, rfl, hO, hb2⟩
    obtain ⟨A2, k2, rfl⟩ := hO.lit
    have HR2 := hide (HR1.out.up hb2)
    have hb02 := hb01.trans (hb2.mono hb01.size)
    have o0 := HR2.out.cell 0
    have o1 := HR2.out.cell 1
    have y0 := HR2.out.free 0
    have y1 := HR2.out.free 1
    obtain ⟨x2, he, h2⟩ := hO
    cases he
    have hbs := hb01.size
    have HO := hide (h2.low (base' := w.heap.size) hbs)
    clear h2 HK HV1 HI1 HB1 HR1 c0 c1 c2 hb2 hb01
    go_wp2_with fail
    refine bodyPost_ret (v := .tuple #[.agg #[.int .i64 (Wo g k.toNat).n, .slice A2 (Wo g k.toNat).ls.length k2], .bool true]) (by simp [results, Try.results24, go_sem, o0, o1]) rfl ⟨.agg #[.int .i64 (Wo g k.toNat).n, .slice A2 (Wo g k.toNat).ls.length k2], by rw [tb_yes HA.out], by rw [HW.out]; exact ⟨_, rfl, own_far' (own_far' HO.out (own_blk_ne HO.out HR2.out (by decide)) _) (own_blk_ne HO.out HR2.out (by decide)) _⟩, (hb02.setCell (by show w.heap.size ≤ B + 1 + 1; omega) _).setCell (by show w.heap.size ≤ B + 1 + 1; omega) _⟩
  · rw [tb_no hA]
    have HW := hide (woX_no hA)
    have HA := hide hA
    clear hA
    have o0 := HR1.out.cell 0
    have o1 := HR1.out.cell 1
    have y0 := HR1.out.free 0
    have y1 := HR1.out.free 1
    go_wp2_with fail
    refine bodyPost_ret (v := .tuple #[.agg #[.int .i64 0, .slice none 0 0], .bool false]) (by simp [results, Try.results24, go_sem, o0, o1]) rfl ⟨.agg #[.int .i64 0, .slice none 0 0], by rw [tb_no HA.out], by rw [HW.out]; exact ⟨_, rfl, Own.nil _ _ _ _ _⟩, (hb01.setCell (by show w.heap.size ≤ B + 1 + 1; omega) _).setCell (by show w.heap.size ≤ B + 1 + 1; omega) _⟩
theorem wo_ls (g : Gr) (k : Nat) : (Wo g k).ls = g.ls.take k ++ g.ls.drop (k + 1) := by
  show g.ls.eraseIdx k = _
  rw [List.eraseIdx_eq_take_drop_succ]
set_option maxRecDepth 100000 in
set_option maxHeartbeats 1600000 in
theorem l1Without_any (v : Value) (g : Gr) (k : Nat) (w : World) (hv : GrR w w.heap.size v g) (hn : g.ls.length ≤ 1048576) (hk : k < g.ls.length) :
    Calls Try.prog 88 #[v, .int .i64 (k : Nat)] w fun e w' => ∃ v', e = .returned v' ∧ OwnG w' w.heap.size v' (Wo g k) ∧ Below w.heap.size w w' := by
  obtain ⟨v2, rfl, h2⟩ := hv
  have h2' := h2
  obtain ⟨A, cap, rfl, hc, hr⟩ := h2'
  obtain ⟨b0, off, rfl, hb0, _⟩ := hr (by omega)
  obtain ⟨B, hB⟩ : ∃ B, B = w.heap.size := ⟨_, rfl⟩
  obtain ⟨wb, hwb⟩ : ∃ wb, wb = (w.alloc (Obj.cells #[.int .i64 g.n, .slice (some ⟨b0, off, none⟩) g.ls.length cap] 25)).alloc (Obj.cells #[.int .i64 0, .slice none 0 0] 25) := ⟨_, rfl⟩
  have hbw : Below w.heap.size w wb := by rw [hwb]; exact below2 _ _ _
  have HB : Hid (Blk wb B 25 #[.int .i64 g.n, .slice (some ⟨b0, off, none⟩) g.ls.length cap]) := hide (by rw [hwb, hB]; exact (Blk.new _ _ _).alloc _)
  have HR : Hid (Blk wb (B + 1) 25 #[.int .i64 0, .slice none 0 0]) := hide (by rw [hwb, hB]; exact Blk.new1 _ _ _ _)
  have hBs : B + 1 < wb.heap.size := HR.out.lt
  have hBw : w.heap.size ≤ B := by omega
  have HS := hide (h2.up hbw)
  have wr1 := ((Below.refl wb.heap.size wb).drew).trans (below1 wb.drew (Obj.cells #[] 64))
  have HE : Hid (Own lc 64 3 (wb.drew.alloc (Obj.cells #[] 64)) wb.heap.size (.slice (some ⟨wb.heap.size, 0, none⟩) 0 0) []) := hide (ownE wb.drew _ (Nat.le_refl _))
  have c0 := HB.out.cell 0
  have c1 := HB.out.cell 1
  have c11 := (HB.out.up wr1).cell 1
  have c10 := (HB.out.up (below1 wb (Obj.cells #[] 64))).cell 1
  have hkw : IntKind.i64.wrap ((k : Int) + 1) = (k : Int) + 1 := by rw [IntKind.wrap_i64]; omega
  have hkc : k ≤ cap := by omega
  have hkc1 : k + 1 ≤ cap := by omega
  have hkl : k + 1 ≤ g.ls.length := hk
  have hkI : (k : Int) ≤ (k : Int) + 1 := by omega
  have hk0 : 0 ≤ (k : Int) + 1 := by omega
  have hkL : (k : Int) + 1 ≤ (g.ls.length : Int) := by omega
  have c12 := (HB.out.up ((Below.refl wb.heap.size wb).drew)).cell 1
  have z1 := HB.out.free 1
  have HW := hide wr1
  have hWL : (Wo g k).ls.length = g.ls.length - 1 := by have := wo_len hk; omega
  have hls := wo_ls g k
  have hln : (g.ls.take k).length = k := by rw [List.length_take]; omega
  have hld : (g.ls.drop (k + 1)).length = g.ls.length - (k + 1) := List.length_drop
  have HLS := hide hls
  have HLN := hide hln
  have HLD := hide hld
  have HWL := hide hWL
  clear h2 hr wr1 hls hln hld hWL
  go_enter Try.func88, Try.ntmps88
  go_upto_region 1 with fail
  rw [← hwb, ← hB]
  clear hwb hB
  by_cases hcap : cap = k + 1
  · subst hcap
    have HLE : Hid ((Wo g k).ls = g.ls.take k ++ []) := hide (by rw [HLS.out, List.drop_eq_nil_of_le (by omega)])
    go_region_law (first
      | (refine step_appN (by rfl) infL2 (.tmp 5) (.tmp 9) (by rfl) _ _ (by rfl) (by rfl) wb [] (g.ls.take k) (g.ls.take k) k rfl HLN.out HE.out HW.out ((HS.out.up HW.out).take (by omega)) (by omega) ?_
         intro A3 c3 w3 hO3 hg3 hb3
         have c13 := (HB.out.up hb3).cell 1
         have HO3 := hide hO3)
      | (refine step_appN (by rfl) infL2 (.tmp 10) (.tmp 15) (by rfl) _ _ (by rfl) (by rfl) wb (g.ls.take k) [] (Wo g k).ls (g.ls.length - 1) HLE.out HWL.out HO3.out hb3 (slr_nil (B := 0)) (by omega) ?_
         intro A4 c4 w4 hO4 hg4 hb4
         have HB4 := hide (HB.out.up hb4)
         have HR4 := hide (HR.out.up hb4)
         have c14 := HB4.out.cell 1
         have z14 := HB4.out.free 1
         have HO4 := hide hO4)
      | fail)
    all_goals
      obtain ⟨wz, hwz⟩ : ∃ wz, wz = w4.setCell ⟨B, 1, none⟩ (.slice A4 (g.ls.length - 1) c4) := ⟨_, rfl⟩
      have HBz : Blk wz B 25 #[.int .i64 g.n, .slice A4 (g.ls.length - 1) c4] := by rw [hwz]; exact HB4.out.put 1 _
      have HRz : Blk wz (B + 1) 25 #[.int .i64 0, .slice none 0 0] := by rw [hwz]; exact HR4.out.far (by show B + 1 ≠ B; omega) _
      have HOz : Own lc 64 3 wz wb.heap.size (.slice A4 (g.ls.length - 1) c4) (Wo g k).ls := by rw [hwz]; exact own_far' HO4.out (own_blk_ne HO4.out HB4.out (by decide)) _
      have hbz : Below w.heap.size w wz := by rw [hwz]; exact (hbw.trans (hb4.mono hbw.size)).setCell (p := ⟨B, 1, none⟩) (by show w.heap.size ≤ B; omega) _
      rw [← hwz]
      have d0 := HBz.cell 0
      have d1 := HBz.cell 1
      have r0 := HRz.cell 0
      have r1 := HRz.cell 1
      have y0 := HRz.free 0
      have y1 := HRz.free 1
      have HOZ := hide HOz
      have HRZ := hide HRz
      clear hwz HBz HRz HOz HB4 HR4 c14 z14 HO4 hO4 hO3 HO3 hg3 hg4 hb3 hb4 c13 c0 c1 c10 c11 c12 z1
      go_wp2_with fail
      have hq := own_blk_ne HOZ.out HRZ.out (by decide)
      refine bodyPost_ret (v := .agg #[.int .i64 g.n, .slice A4 (g.ls.length - 1) c4]) (by simp [results, Try.results88, go_sem, r0, r1]) rfl ⟨_, rfl, ⟨_, rfl, (own_far' (own_far' HOZ.out hq _) hq _).low hbw.size⟩, (hbz.setCell (p := ⟨B + 1, 0, none⟩) (by show w.heap.size ≤ B + 1; omega) _).setCell (p := ⟨B + 1, 1, none⟩) (by show w.heap.size ≤ B + 1; omega) _⟩
  · skip
    go_region_law (first
      | (refine step_appN (by rfl) infL2 (.tmp 5) (.tmp 9) (by rfl) _ _ (by rfl) (by rfl) wb [] (g.ls.take k) (g.ls.take k) k rfl HLN.out HE.out HW.out ((HS.out.up HW.out).take (by omega)) (by omega) ?_
         intro A3 c3 w3 hO3 hg3 hb3
         have c13 := (HB.out.up hb3).cell 1
         have HO3 := hide hO3)
      | (refine step_appN (by rfl) infL2 (.tmp 10) (.tmp 15) (by rfl) _ _ (by rfl) (by rfl) wb (g.ls.take k) (g.ls.drop (k + 1)) (Wo g k).ls (g.ls.length - 1) HLS.out HWL.out HO3.out hb3 ((HS.out.up hb3).drop (by omega) (by omega)) (by omega) ?_
         intro A4 c4 w4 hO4 hg4 hb4
         have HB4 := hide (HB.out.up hb4)
         have HR4 := hide (HR.out.up hb4)
         have c14 := HB4.out.cell 1
         have z14 := HB4.out.free 1
         have HO4 := hide hO4)
      | fail)
    all_goals
      obtain ⟨wz, hwz⟩ : ∃ wz, wz = w4.setCell ⟨B, 1, none⟩ (.slice A4 (g.ls.length - 1) c4) := ⟨_, rfl⟩
      have HBz : Blk wz B 25 #[.int .i64 g.n, .slice A4 (g.ls.length - 1) c4] := by rw [hwz]; exact HB4.out.put 1 _
      have HRz : Blk wz (B + 1) 25 #[.int .i64 0, .slice none 0 0] := by rw [hwz]; exact HR4.out.far (by show B + 1 ≠ B; omega) _
      have HOz : Own lc 64 3 wz wb.heap.size (.slice A4 (g.ls.length - 1) c4) (Wo g k).ls := by rw [hwz]; exact own_far' HO4.out (own_blk_ne HO4.out HB4.out (by decide)) _
      have hbz : Below w.heap.size w wz := by rw [hwz]; exact (hbw.trans (hb4.mono hbw.size)).setCell (p := ⟨B, 1, none⟩) (by show w.heap.size ≤ B; omega) _
      rw [← hwz]
      have d0 := HBz.cell 0
      have d1 := HBz.cell 1
      have r0 := HRz.cell 0
      have r1 := HRz.cell 1
      have y0 := HRz.free 0
      have y1 := HRz.free 1
      have HOZ := hide HOz
      have HRZ := hide HRz
      clear hwz HBz HRz HOz HB4 HR4 c14 z14 HO4 hO4 hO3 HO3 hg3 hg4 hb3 hb4 c13 c0 c1 c10 c11 c12 z1
      go_wp2_with fail
      have hq := own_blk_ne HOZ.out HRZ.out (by decide)
      refine bodyPost_ret (v := .agg #[.int .i64 g.n, .slice A4 (g.ls.length - 1) c4]) (by simp [results, Try.results88, go_sem, r0, r1]) rfl ⟨_, rfl, ⟨_, rfl, (own_far' (own_far' HOZ.out hq _) hq _).low hbw.size⟩, (hbz.setCell (p := ⟨B + 1, 0, none⟩) (by show w.heap.size ≤ B + 1; omega) _).setCell (p := ⟨B + 1, 1, none⟩) (by show w.heap.size ≤ B + 1; omega) _⟩
end Go.Proofs.Ytbhkjeicogjfbaa
