/- The reference's TableRemove: remT. Conditions: at most 1048576 routes and hops. -/
import Derived.Test.YtlkchocjldllgaaDrawT
namespace Go.Proofs.Ytlkchocjldllgaa
open Go.RowKit

/-- The state of the filter: boxes of t, of the result, of out; out's own slices. -/
structure Rm (w : World) (base C : Nat) (tv : Array Value) (W : World) (v1 v2 : Value) (rs : List Rt) (hs : List Int) : Prop where
  bw : Below w.heap.size w W
  b3 : Blk W w.heap.size 30 tv
  bo : Blk W (w.heap.size + 1) 30 #[.slice none 0 0, .slice none 0 0]
  bc : Blk W C 30 #[v1, v2]
  o1 : Own rc 40 3 W base v1 rs
  o2 : Own ic 3 1 W base v2 hs
theorem Rm.below {w W W' : World} {base C : Nat} {tv : Array Value} {v1 v2 : Value} {rs : List Rt} {hs : List Int} (h : Rm w base C tv W v1 v2 rs hs) (hb : Below W.heap.size W W') : Rm w base C tv W' v1 v2 rs hs :=
  ⟨h.bw.trans (hb.mono h.bw.size), h.b3.up hb, h.bo.up hb, h.bc.up hb, h.o1.below hb, h.o2.below hb⟩
theorem Rm.app {w W W' : World} {base C : Nat} {tv : Array Value} {v1 v2 v3 : Value} {rs rs' : List Rt} {hs : List Int} (h : Rm w base C tv W v1 v2 rs hs) (hbase : w.heap.size + 1 < base) (hC : base ≤ C) (hg : W.grownBy W' v1.ownBlock) (ho : Own rc 40 3 W' base v3 rs') :
    Rm w base C tv (W'.setCell ⟨C, 0, none⟩ v3) v3 v2 rs' hs ∧ Blk W' C 30 #[v1, v2] ∧ Blk W' w.heap.size 30 tv := by
  have hlo : ∀ k, v1.ownBlock = some k → base ≤ k := fun k hk => (World.ownsRow.lt h.o1 k hk).1
  have b3 := h.b3.grown hg (Ne.symm (own_blk_ne h.o1 h.b3 (by decide)))
  have bo := h.bo.grown hg (Ne.symm (own_blk_ne h.o1 h.bo (by decide)))
  have bc := h.bc.grown hg (Ne.symm (own_blk_ne h.o1 h.bc (by decide)))
  have o2 := own_grown h.o2 hg (own_types h.o2 h.o1 (by decide))
  have n1 := own_blk_ne ho bc (by decide)
  have n2 := own_blk_ne o2 bc (by decide)
  refine ⟨⟨(h.bw.grown hg h.bw.size fun k hk => by have := hlo k hk; omega).setCell (by show w.heap.size ≤ C; omega) _, b3.far (by show w.heap.size ≠ C; omega) _, bo.far (by show w.heap.size + 1 ≠ C; omega) _, bc.put 0 _, own_far' ho n1 _, own_far' o2 n2 _⟩, bc, b3⟩
set_option maxRecDepth 100000 in
set_option maxHeartbeats 1600000 in
theorem specRemove_any (v : Value) (t : Tab) (p b : Int) (w : World) (hv : TbR w w.heap.size v t) (hn : t.routes.length ≤ 1048576 ∧ t.hops.length ≤ 1048576) :
    Calls Try.prog 42 #[v, .int .i64 p, .int .i64 b] w fun e w' => ∃ v', e = .returned (.tuple #[v', .bool (remT t p b).2]) ∧ OwnT w' w.heap.size v' (remT t p b).1 ∧ Below w.heap.size w w' := by
  have hvv := hv
  obtain ⟨v1, v2, rfl, hs1, hs2⟩ := hv
  obtain ⟨A1, cap1, rfl, hc1, hr1⟩ := hs1
  have hs2' := hs2
  obtain ⟨A2, cap2, rfl, _, _⟩ := hs2
  have hn1 := hn.1
  have hn2 := hn.2
  obtain ⟨nl, hnl⟩ : ∃ nl, nl = Value.slice none 0 0 := ⟨_, rfl⟩
  obtain ⟨wb, hwb⟩ : ∃ wb, wb = (w.alloc (Obj.cells #[.slice A1 t.routes.length cap1, .slice A2 t.hops.length cap2] 30)).alloc (Obj.cells #[nl, nl] 30) := ⟨_, rfl⟩
  have hbw : Below w.heap.size w wb := by rw [hwb]; exact below2 _ _ _
  have BT : Blk wb w.heap.size 30 #[.slice A1 t.routes.length cap1, .slice A2 t.hops.length cap2] := by rw [hwb]; exact (Blk.new _ _ _).alloc _
  have BO : Blk wb (w.heap.size + 1) 30 #[nl, nl] := by
    have h := Blk.new (w.alloc (Obj.cells #[.slice A1 t.routes.length cap1, .slice A2 t.hops.length cap2] 30)) 30 #[nl, nl]
    rw [hwb]; simpa using h
  rw [hnl] at hwb
  go_enter Try.func42, Try.ntmps42
  go_wp2_with fail
  rw [← hwb]
  clear hwb
  refine (specTableValid_any _ t _ (hvv.up hbw) hn).mono ?_
  rintro e w1 ⟨rfl, hb1⟩
  have HT1 := hide (BT.up hb1)
  have HO1 := hide (BO.up hb1)
  have hb01 := hbw.trans (hb1.mono hbw.size)
  clear BT BO hb1 hbw
  by_cases hV : TV t
  · rw [tb_yes hV]
    have HV := hide hV
    clear hV
    have t0 := HT1.out.cell 0
    have t1 := HT1.out.cell 1
    have lt1 := HT1.out.lt
    have lt2 := HO1.out.lt
    have hh1 := hs2'.up hb01
    go_upto_region 4 with (at_builtin; refine wpList_appN (by rfl) infI (.tmp 15) (.tmp 17) (by rfl) _ _ (by rfl) (by rfl) w1 [] t.hops t.hops t.hops.length rfl rfl (ownE1 w1 _ _ (Nat.le_refl _)) (below2 w1 _ _) (hh1.up (below2 w1 _ _)) (by omega) ?_; intro Ay capy w2 hO2 hg2 hb2)
    obtain ⟨C, hC⟩ : ∃ C, C = w2.heap.size := ⟨_, rfl⟩
    obtain ⟨wc, hwc⟩ : ∃ wc, wc = w2.alloc (Obj.cells #[.slice (some ⟨w1.heap.size, 0, none⟩) 0 0, .slice Ay t.hops.length capy] 30) := ⟨_, rfl⟩
    have hBC : w1.heap.size ≤ C := by rw [hC]; exact hb2.size
    have h2c : Below w2.heap.size w2 wc := by rw [hwc]; exact below1 _ _
    have ho0 : Own rc 40 3 w2 w1.heap.size (.slice (some ⟨w1.heap.size, 0, none⟩) 0 0) [] :=
      Own.keep ((ownE w1 40 (Nat.le_refl _)).below (below1 _ _)) fun q hq => hg2.block q (by simp [Value.ownBlock] at hq; subst hq; simp; omega) (by simp [Value.ownBlock] at hq; subst hq; simp [Value.ownBlock])
    have R0 : Rm w w1.heap.size C #[.slice A1 t.routes.length cap1, .slice A2 t.hops.length cap2] wc (.slice (some ⟨w1.heap.size, 0, none⟩) 0 0) (.slice Ay t.hops.length capy) [] t.hops :=
      ⟨(hb01.trans (hb2.mono hb01.size)).trans (h2c.mono (Nat.le_trans hb01.size hb2.size)), (HT1.out.up hb2).up h2c, by have := (HO1.out.up hb2).up h2c; rw [hnl] at this; exact this, by rw [hwc, hC]; exact Blk.new _ _ _, ho0.below h2c, hO2.below h2c⟩
    rw [← hwc, ← hC]
    have HR0 := hide R0
    clear R0
    clear hwc hC h2c hO2 ho0 hb2 hg2 HO1 t0 t1 hh1
    go_wp2
    go_loopg [9] (t.routes.length) (fun g iv wr => ∃ (k : Nat) (A : Option Addr) (c : Nat), k + g = t.routes.length ∧ iv = .int .i64 k ∧ Hid (Rm w w1.heap.size C #[.slice A1 t.routes.length cap1, .slice A2 t.hops.length cap2] wr (.slice A (remL (t.routes.take k) p b).length c) (.slice Ay t.hops.length capy) (remL (t.routes.take k) p b) t.hops))
    case atStart => exact ⟨0, _, _, by omega, rfl, HR0⟩
    case round =>
      obtain ⟨k, A, c, hk, rfl, HR⟩ := hrel
      have t0 := HR.out.b3.cell 0
      have u0 := HR.out.bc.cell 0
      by_cases hlt : k < t.routes.length
      · obtain ⟨bb, off, rfl, hbb, hcell⟩ := hr1 (by omega)
        obtain ⟨r, hck⟩ := get_some hlt
        obtain ⟨g1, g2, g3⟩ := routeAt (hcell.keep (w' := wr) fun q hq => HR.out.bw.cell (by omega)) hck
        have htk : t.routes.take (k + 1) = t.routes.take k ++ [r] := by rw [List.take_add_one, hck]; rfl
        have hrs := remL_snoc (t.routes.take k) r p b
        rw [← htk] at hrs
        clear htk hck
        by_cases hrm : r.pre = p ∧ r.bits = b
        · rw [if_pos hrm] at hrs
          have e1 : (r.pre != p) = false := by simp [hrm.1]
          have e2 : (r.bits != b) = false := by simp [hrm.2]
          have HR2 := HR
          rw [← hrs] at HR2
          clear hrm hrs HR
          go_wp2
          go_roundg (gk - 1)
          case measure => omega
          case rel => exact ⟨k + 1, _, _, by omega, by go_num, HR2⟩
        · rw [if_neg hrm] at hrs
          have hlr : (remL (t.routes.take k) p b).length ≤ k := Nat.le_trans (remL_len _ _ _) (by simp; omega)
          by_cases hrp : r.pre = p
          · have hrb : ¬ r.bits = b := fun h => hrm ⟨hrp, h⟩
            have e1 : (r.pre != p) = false := by simp [hrp]
            have e2 : (r.bits != b) = true := by simp [hrb]
            clear hrm hrp hrb
            obtain ⟨l, hl⟩ : ∃ l, l = remL (t.routes.take k) p b := ⟨_, rfl⟩
            rw [← hl] at hrs hlr HR u0
            have wr1 := ((Below.refl wr.heap.size wr).drew).trans (below1 wr.drew (Obj.cells #[.int .i64 r.pre, .int .i64 r.bits, .int .i64 r.hop] 40))
            have HRA := hide (HR.out.below wr1)
            have u8 := (HR.out.below (below1 wr (Obj.cells #[.int .i64 r.pre, .int .i64 r.bits, .int .i64 r.hop] 40))).bc.cell 0
            clear hl
            go_upto_region 8 with fail
            go_region_law (first
              | (refine step_app (by rfl) infR (.tmp 46) (.tmp 52) (by rfl) _ _ (by rfl) (by rfl) w1.heap.size (wr.heap.size + 1) l [r] ?_ ?_ ?_ ?_ ?_
                 · exact HRA.out.o1
                 · exact slr_one (Blk.new wr.drew 40 #[.int .i64 r.pre, .int .i64 r.bits, .int .i64 r.hop]) rfl (Nat.lt_succ_self wr.heap.size)
                 · simp; omega
                 · exact Nat.le_trans hBC (Nat.le_of_lt HRA.out.bc.lt)
                 intro A3 c3 w7 hO7 hg7 hat7
                 have E7 := HRA.out.app lt2 hBC hg7 hO7
                 have c70 := E7.2.1.cell 0
                 have z70 := E7.2.1.free 0)
              | fail)
            all_goals
              have E8 := hide E7.1
              obtain ⟨w8, hw8⟩ : ∃ w8, w8 = w7.setCell ⟨C, 0, none⟩ (.slice A3 (l.length + 1) c3) := ⟨_, rfl⟩
              have E8' : Hid (Rm w w1.heap.size C #[.slice (some ⟨bb, off, none⟩) t.routes.length cap1, .slice A2 t.hops.length cap2] w8 (.slice A3 (l ++ [r]).length c3) (.slice Ay t.hops.length capy) (l ++ [r]) t.hops) := by
                rw [hw8, List.length_append, List.length_singleton]; exact E8
              rw [← hw8]
              clear hw8 E8 E7 c70 z70 hO7 hg7 hat7 HR HRA u8 u0 t0 g1 g2 g3 wr1
              rw [← hrs] at E8'
              clear hrs
              go_wp2
              go_roundg (gk - 1)
              case measure => omega
              case rel => exact ⟨k + 1, _, _, by omega, by go_num, E8'⟩
          · have e1 : (r.pre != p) = true := by simp [hrp]
            clear hrm hrp
            obtain ⟨l, hl⟩ : ∃ l, l = remL (t.routes.take k) p b := ⟨_, rfl⟩
            rw [← hl] at hrs hlr HR u0
            have wr1 := ((Below.refl wr.heap.size wr).drew).trans (below1 wr.drew (Obj.cells #[.int .i64 r.pre, .int .i64 r.bits, .int .i64 r.hop] 40))
            have HRA := hide (HR.out.below wr1)
            have u8 := (HR.out.below (below1 wr (Obj.cells #[.int .i64 r.pre, .int .i64 r.bits, .int .i64 r.hop] 40))).bc.cell 0
            clear hl
            go_upto_region 8 with fail
            go_region_law (first
              | (refine step_app (by rfl) infR (.tmp 46) (.tmp 52) (by rfl) _ _ (by rfl) (by rfl) w1.heap.size (wr.heap.size + 1) l [r] ?_ ?_ ?_ ?_ ?_
                 · exact HRA.out.o1
                 · exact slr_one (Blk.new wr.drew 40 #[.int .i64 r.pre, .int .i64 r.bits, .int .i64 r.hop]) rfl (Nat.lt_succ_self wr.heap.size)
                 · simp; omega
                 · exact Nat.le_trans hBC (Nat.le_of_lt HRA.out.bc.lt)
                 intro A3 c3 w7 hO7 hg7 hat7
                 have E7 := HRA.out.app lt2 hBC hg7 hO7
                 have c70 := E7.2.1.cell 0
                 have z70 := E7.2.1.free 0)
              | fail)
            all_goals
              have E8 := hide E7.1
              obtain ⟨w8, hw8⟩ : ∃ w8, w8 = w7.setCell ⟨C, 0, none⟩ (.slice A3 (l.length + 1) c3) := ⟨_, rfl⟩
              have E8' : Hid (Rm w w1.heap.size C #[.slice (some ⟨bb, off, none⟩) t.routes.length cap1, .slice A2 t.hops.length cap2] w8 (.slice A3 (l ++ [r]).length c3) (.slice Ay t.hops.length capy) (l ++ [r]) t.hops) := by
                rw [hw8, List.length_append, List.length_singleton]; exact E8
              rw [← hw8]
              clear hw8 E8 E7 c70 z70 hO7 hg7 hat7 HR HRA u8 u0 t0 g1 g2 g3 wr1
              rw [← hrs] at E8'
              clear hrs
              go_wp2
              go_roundg (gk - 1)
              case measure => omega
              case rel => exact ⟨k + 1, _, _, by omega, by go_num, E8'⟩
      · have htk : t.routes.take k = t.routes := List.take_of_length_le (by omega)
        rw [htk] at HR u0
        have hrt := remT_yes (p := p) (b := b) HV.out
        have hll := remL_len t.routes p b
        obtain ⟨l, hl⟩ : ∃ l, l = remL t.routes p b := ⟨_, rfl⟩
        rw [← hl] at HR u0 hrt hll
        have HRT := hide hrt
        clear hl htk hrt
        have t1 := HR.out.b3.cell 1
        have u1 := HR.out.bc.cell 1
        have o0 := HR.out.bo.cell 0
        have o1 := HR.out.bo.cell 1
        have z0 := HR.out.bo.free 0
        have z1 := HR.out.bo.free 1
        have hwr := HR.out.bw
        go_upto_region 9 with fail
        go_region
        all_goals
          go_wp2_with fail
          refine bodyPost_ret (v := .tuple #[.agg #[.slice A l.length c, .slice Ay t.hops.length capy], .bool (decide (l.length < t.routes.length))]) (by simp [results, Try.results42, go_sem, o0, o1]) rfl ⟨_, by rw [HRT.out], by rw [HRT.out]; exact (ownT_far HR.out.o1 HR.out.o2 (own_types HR.out.o1 HR.out.o2 (by decide)) lt2 hb01.size : OwnT _ _ _ _), ((hwr.setCell (by simp) _).setCell (by simp) _).drew⟩
  · rw [tb_no hV]
    have HNO : Hid (remT t p b = (⟨[], []⟩, false)) := hide (remT_no hV)
    clear hV
    have o0 := HO1.out.cell 0
    have o1 := HO1.out.cell 1
    have z0 := HO1.out.free 0
    have z1 := HO1.out.free 1
    go_wp2_with fail
    refine bodyPost_ret (v := .tuple #[.agg #[.slice none 0 0, .slice none 0 0], .bool false]) (by simp [results, Try.results42, go_sem, o0, o1]) rfl ⟨_, by rw [HNO.out], by rw [HNO.out]; exact ownT_nil _ _, ?_⟩
    exact (hb01.setCell (by simp) _).setCell (by simp) _
end Go.Proofs.Ytlkchocjldllgaa
