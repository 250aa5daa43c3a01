/- TableTurn, of the program and of the reference. Conditions: at most 1048576 routes and hops. -/
import Derived.Test.YtlkchocjldllgaaAddS
namespace Go.Proofs.Ytlkchocjldllgaa
open Go.RowKit

set_option maxRecDepth 100000 in
set_option maxHeartbeats 1600000 in
theorem specTurn_any (v : Value) (t : Tab) (h n : Int) (w : World) (hv : TbR w w.heap.size v t) (hn : t.routes.length ≤ 1048576 ∧ t.hops.length ≤ 1048576) :
    Calls Try.prog 36 #[v, .int .i64 h, .int .i64 n] w fun e w' => ∃ v', e = .returned (.tuple #[v', .int .i64 (turnT t h n).2]) ∧ OwnT w' w.heap.size v' (turnT t h n).1 ∧ Below w.heap.size w w' := by
  have hvv := hv
  obtain ⟨v1, v2, rfl, hs1, hs2⟩ := hv
  obtain ⟨A1, cap1, rfl, hc1, hr1⟩ := hs1
  obtain ⟨A2, cap2, rfl, _, _⟩ := hs2
  have hn1 := hn.1
  have hn2 := hn.2
  obtain ⟨nl, hnl⟩ : ∃ nl, nl = Value.slice none 0 0 := ⟨_, rfl⟩
  obtain ⟨wb, hwb⟩ : ∃ wb, wb = (w.alloc (Obj.cells #[.slice A1 t.routes.length cap1, .slice A2 t.hops.length cap2] 30)).alloc (Obj.cells #[nl, nl] 30) := ⟨_, rfl⟩
  have hbw : Below w.heap.size w wb := by rw [hwb]; exact below2 _ _ _
  have BT : Blk wb w.heap.size 30 #[.slice A1 t.routes.length cap1, .slice A2 t.hops.length cap2] := by rw [hwb]; exact (Blk.new _ _ _).alloc _
  have BO : Blk wb (w.heap.size + 1) 30 #[nl, nl] := by
    have h := Blk.new (w.alloc (Obj.cells #[.slice A1 t.routes.length cap1, .slice A2 t.hops.length cap2] 30)) 30 #[nl, nl]
    rw [hwb]; simpa using h
  rw [hnl] at hwb
  go_enter Try.func36, Try.ntmps36
  go_wp2_with fail
  rw [← hwb]
  clear hwb
  refine (specTableValid_any _ t _ (hvv.up hbw) hn).mono ?_
  rintro e w1 ⟨rfl, hb1⟩
  have HT1 := hide (BT.up hb1)
  have HO1 := hide (BO.up hb1)
  have hb01 := hbw.trans (hb1.mono hbw.size)
  have ltO := (BO.up hb1).lt
  clear BT BO hb1 hbw
  by_cases hV : TV t
  · rw [tb_yes hV]
    have HV := hide hV
    clear hV
    have t0 := HT1.out.cell 0
    have t1 := HT1.out.cell 1
    by_cases hh : 0 ≤ h ∧ h ≤ t.hops.length - 1
    · by_cases hnn : 0 ≤ n ∧ n ≤ 7
      · have HH := hide hh
        have HNN := hide hnn
        go_wp2_with (go_at_call 49; first | (refine (l6In_t _ _ _ _ ?_).mono ?_; exact hh; rintro e w2 ⟨rfl, rfl⟩) | (refine (l6In_t _ _ _ _ ?_).mono ?_; exact hnn; rintro e w2 ⟨rfl, rfl⟩))
        refine (l23Copy_any _ t _ (hvv.up hb01) hn).mono ?_
        rintro e w3 ⟨c, rfl, hO3, hb3⟩
        obtain ⟨x1, x2, rfl, hx1, hx2, hsep⟩ := hO3
        obtain ⟨B1, cp1, rfl, _, _⟩ := hx1.lit
        obtain ⟨B2, cp2, rfl, _, _⟩ := hx2.lit
        have hb03 := hb01.trans (hb3.mono hb01.size)
        obtain ⟨wc, hwc⟩ : ∃ wc, wc = w3.alloc (Obj.cells #[.slice B1 t.routes.length cp1, .slice B2 t.hops.length cp2] 30) := ⟨_, rfl⟩
        have h3c : Below w3.heap.size w3 wc := by rw [hwc]; exact below1 _ _
        obtain ⟨C, hC⟩ : ∃ C, C = w3.heap.size := ⟨_, rfl⟩
        have hBC : Blk wc C 30 #[.slice B1 t.routes.length cp1, .slice B2 t.hops.length cp2] := by rw [hwc, hC]; exact Blk.new _ _ _
        have h0c := hb03.trans (h3c.mono hb03.size)
        have hX1 := hx1.below h3c
        have hX2 := hx2.below h3c
        have hTc := (HT1.out.up hb3).up h3c
        have hOc := (HO1.out.up hb3).up h3c
        have hsz := hb3.size
        have hlC : C < wc.heap.size := hBC.lt
        have ltO2 := (HO1.out).lt
        have hVL : t.routes.length ≤ 10 := HV.out.len.2
        obtain ⟨j, rfl⟩ := Int.eq_ofNat_of_zero_le hh.1
        have hjl : j < t.hops.length := by omega
        obtain ⟨go, cpg, hx, hgo1, hgo2⟩ := hX2.form (by omega)
        have hA : B2 = some ⟨go, 0, none⟩ := by injection hx
        subst hA
        have hgC : go < C := by rw [hC]; exact (World.ownsRow.lt hx2 go rfl).2
        have hwg : w.heap.size + 1 < go := by have := (World.ownsRow.lt hx2 go rfl).1; omega
        obtain ⟨x0, hx0⟩ := get_some hjl
        obtain ⟨⟨u0, q0⟩, z0⟩ := hX2.slot (k := j) (j := 0) rfl hjl (by decide)
        rw [Nat.mul_one, Nat.add_zero] at q0 z0
        have s1 := hX2.set ic_len (k := j) (j := 0) (x := x0) (y := n) (u := .int .i64 n) rfl hx0 (by decide) rfl
        rw [Nat.mul_one, Nat.add_zero] at s1
        have HS1 := hide s1
        have k0 := hBC.cell 0
        have k1 := hBC.cell 1
        have HTc := hide hTc
        have HOc := hide hOc
        have HBC := hide hBC
        have HX1 := hide hX1
        have HSEP := hide hsep
        clear s1 hx hb3 hb03 hx1 hx2 hX1 hX2 hTc hOc hBC t0 t1 HT1 HO1 h3c hsz hx0 hsep
        go_upto_region 4 with fail
        rw [← hwc, ← hC]
        clear hwc hC
        go_upto_region 5 with fail
        obtain ⟨ws, hws⟩ : ∃ ws, ws = wc.setCell ⟨go, j, none⟩ (.int .i64 n) := ⟨_, rfl⟩
        have HSS : Hid (Own ic 3 1 ws w2.heap.size (.slice (some ⟨go, 0, none⟩) t.hops.length cp2) (t.hops.set j n)) := hide (by rw [hws]; exact HS1.out)
        have HSR : Hid (Own rc 40 3 ws w2.heap.size (.slice B1 t.routes.length cp1) t.routes) := hide (by rw [hws]; exact own_far HX1.out (fun q hq e => HSEP.out q hq (by rw [e]; rfl)) _)
        have HTs : Hid (Blk ws w.heap.size 30 #[.slice A1 t.routes.length cap1, .slice A2 t.hops.length cap2]) := hide (by rw [hws]; exact HTc.out.far (by simp; omega) _)
        have HOs : Hid (Blk ws (w.heap.size + 1) 30 #[nl, nl]) := hide (by rw [hws]; exact HOc.out.far (by simp; omega) _)
        have HCs : Hid (Blk ws C 30 #[.slice B1 t.routes.length cp1, .slice (some ⟨go, 0, none⟩) t.hops.length cp2]) := hide (by rw [hws]; exact HBC.out.far (by simp; omega) _)
        have hbs : Below w.heap.size w ws := by rw [hws]; exact h0c.setCell (by simp; omega) _
        rw [← hws]
        clear hws q0 z0 HS1 HX1 HTc HOc HBC k0 k1 h0c
        have t0 := HTs.out.cell 0
        obtain ⟨wc, hwc⟩ : ∃ wc, wc = ws := ⟨_, rfl⟩
        subst hwc
        go_wp2
        go_loopg [9, 10] (t.routes.length) (fun g cv iv wr => ∃ (k : Nat) (c : Int), k + g = t.routes.length ∧ iv = .int .i64 k ∧ cv = .int .i64 c ∧ 0 ≤ c ∧ c ≤ k ∧ Hid (c = cntH (t.routes.take k) j) ∧ Below wc.heap.size wc wr)
        case atStart => exact ⟨0, 0, by omega, rfl, rfl, by omega, by omega, hide (by simp [cntH]), Below.refl _ _⟩
        case round =>
          obtain ⟨k, c, hk, rfl, rfl, hc0, hc9, HCN, hbe⟩ := hrel
          have hbw := hbs.trans (hbe.mono hbs.size)
          have t0 := (HTs.out.up hbe).cell 0
          by_cases hlt : k < t.routes.length
          · obtain ⟨b, off, rfl, hb, hcell⟩ := hr1 (by omega)
            obtain ⟨r, hck⟩ := get_some hlt
            obtain ⟨g1, g2, g3⟩ := routeAt (hcell.keep (w' := wr) fun p hp => hbw.cell (by omega)) hck
            have htk : t.routes.take (k + 1) = t.routes.take k ++ [r] := by rw [List.take_add_one, hck]; rfl
            have hcn := cntH_snoc (t.routes.take k) r j
            rw [← htk] at hcn
            have HCN' := hide hcn
            clear htk hcn hck
            by_cases hrh : r.hop = (j : Int)
            · have e1 : (r.hop == (j : Int)) = true := by simp [hrh]
              have HN : Hid (c + 1 = cntH (t.routes.take (k + 1)) j) := hide (by have := HCN'.out; rw [if_pos hrh] at this; have := HCN.out; omega)
              clear hrh
              go_wp2
              go_roundg (gk - 1)
              case measure => omega
              case rel => exact ⟨k + 1, c + 1, by omega, by go_num, rfl, by omega, by omega, HN, hbe⟩
            · have e1 : (r.hop == (j : Int)) = false := by simp [hrh]
              have HN : Hid (c = cntH (t.routes.take (k + 1)) j) := hide (by have := HCN'.out; rw [if_neg hrh] at this; have := HCN.out; omega)
              clear hrh
              go_wp2
              go_roundg (gk - 1)
              case measure => omega
              case rel => exact ⟨k + 1, c, by omega, by go_num, rfl, by omega, by omega, HN, hbe⟩
          · have hcc : c = cntH t.routes j := by have := HCN.out; rw [List.take_of_length_le (by omega)] at this; exact this
            have HCC : Hid (turnT t j n = (⟨t.routes, t.hops.set j n⟩, c)) := hide (by rw [turnT_yes ⟨HV.out, HH.out, HNN.out⟩, hcc]; rfl)
            have c0 := (HCs.out.up hbe).cell 0
            have c1 := (HCs.out.up hbe).cell 1
            have o0 := (HOs.out.up hbe).cell 0
            have o1 := (HOs.out.up hbe).cell 1
            have y0 := (HOs.out.up hbe).free 0
            have y1 := (HOs.out.up hbe).free 1
            clear hcc HCN
            go_wp2_with fail
            refine bodyPost_ret (v := .tuple #[.agg #[.slice B1 t.routes.length cp1, .slice (some ⟨go, 0, none⟩) t.hops.length cp2], .int .i64 c]) (by simp [results, Try.results36, go_sem, o0, o1]) rfl ⟨_, by rw [HCC.out], by rw [HCC.out]; exact ownT_far (HSR.out.below hbe) (HSS.out.below hbe) HSEP.out (by omega) (by omega), (hbw.setCell (by simp) _).setCell (by simp) _⟩
      · have HNN := hide hnn
        have HNO : Hid (turnT t h n = (⟨[], []⟩, -1)) := hide (turnT_no (fun h => HNN.out h.2.2))
        have o0 := HO1.out.cell 0
        have o1 := HO1.out.cell 1
        have z0 := HO1.out.free 0
        have z1 := HO1.out.free 1
        go_wp2_with (go_at_call 49; first | (refine (l6In_t _ _ _ _ ?_).mono ?_; exact hh; rintro e w2 ⟨rfl, rfl⟩) | (refine (l6In_f _ _ _ _ ?_).mono ?_; exact hnn; rintro e w2 ⟨rfl, rfl⟩))
        refine bodyPost_ret (v := .tuple #[.agg #[.slice none 0 0, .slice none 0 0], .int .i64 (-1)]) (by simp [results, Try.results36, go_sem, o0, o1]) rfl ⟨_, by rw [HNO.out], by rw [HNO.out]; exact ownT_nil _ _, ?_⟩
        exact (hb01.setCell (by simp) _).setCell (by simp) _
    · have HHN := hide hh
      have HNO : Hid (turnT t h n = (⟨[], []⟩, -1)) := hide (turnT_no (fun h => HHN.out h.2.1))
      have o0 := HO1.out.cell 0
      have o1 := HO1.out.cell 1
      have z0 := HO1.out.free 0
      have z1 := HO1.out.free 1
      go_wp2_with (go_at_call 49; refine (l6In_f _ _ _ _ ?_).mono ?_; exact hh; rintro e w2 ⟨rfl, rfl⟩)
      refine bodyPost_ret (v := .tuple #[.agg #[.slice none 0 0, .slice none 0 0], .int .i64 (-1)]) (by simp [results, Try.results36, go_sem, o0, o1]) rfl ⟨_, by rw [HNO.out], by rw [HNO.out]; exact ownT_nil _ _, ?_⟩
      exact (hb01.setCell (by simp) _).setCell (by simp) _
  · rw [tb_no hV]
    have HVN := hide hV
    clear hV
    have HNO : Hid (turnT t h n = (⟨[], []⟩, -1)) := hide (turnT_no (fun h => HVN.out h.1))
    have o0 := HO1.out.cell 0
    have o1 := HO1.out.cell 1
    have z0 := HO1.out.free 0
    have z1 := HO1.out.free 1
    go_wp2_with (fail)
    refine bodyPost_ret (v := .tuple #[.agg #[.slice none 0 0, .slice none 0 0], .int .i64 (-1)]) (by simp [results, Try.results36, go_sem, o0, o1]) rfl ⟨_, by rw [HNO.out], by rw [HNO.out]; exact ownT_nil _ _, ?_⟩
    exact (hb01.setCell (by simp) _).setCell (by simp) _
set_option maxRecDepth 100000 in
set_option maxHeartbeats 1600000 in
theorem turn_any (v : Value) (t : Tab) (h n : Int) (w : World) (hv : TbR w w.heap.size v t) (hn : t.routes.length ≤ 1048576 ∧ t.hops.length ≤ 1048576) :
    Calls Try.prog 35 #[v, .int .i64 h, .int .i64 n] w fun e w' => ∃ v', e = .returned (.tuple #[v', .int .i64 (turnT t h n).2]) ∧ OwnT w' w.heap.size v' (turnT t h n).1 ∧ Below w.heap.size w w' := by
  have hvv := hv
  obtain ⟨v1, v2, rfl, hs1, hs2⟩ := hv
  obtain ⟨A1, cap1, rfl, hc1, hr1⟩ := hs1
  obtain ⟨A2, cap2, rfl, _, _⟩ := hs2
  have hn1 := hn.1
  have hn2 := hn.2
  obtain ⟨nl, hnl⟩ : ∃ nl, nl = Value.slice none 0 0 := ⟨_, rfl⟩
  obtain ⟨wb, hwb⟩ : ∃ wb, wb = (w.alloc (Obj.cells #[.slice A1 t.routes.length cap1, .slice A2 t.hops.length cap2] 30)).alloc (Obj.cells #[nl, nl] 30) := ⟨_, rfl⟩
  have hbw : Below w.heap.size w wb := by rw [hwb]; exact below2 _ _ _
  have BT : Blk wb w.heap.size 30 #[.slice A1 t.routes.length cap1, .slice A2 t.hops.length cap2] := by rw [hwb]; exact (Blk.new _ _ _).alloc _
  have BO : Blk wb (w.heap.size + 1) 30 #[nl, nl] := by
    have h := Blk.new (w.alloc (Obj.cells #[.slice A1 t.routes.length cap1, .slice A2 t.hops.length cap2] 30)) 30 #[nl, nl]
    rw [hwb]; simpa using h
  rw [hnl] at hwb
  go_enter Try.func35, Try.ntmps35
  go_wp2_with fail
  rw [← hwb]
  clear hwb
  refine (tableValid_any _ t _ (hvv.up hbw) hn).mono ?_
  rintro e w1 ⟨rfl, hb1⟩
  have HT1 := hide (BT.up hb1)
  have HO1 := hide (BO.up hb1)
  have hb01 := hbw.trans (hb1.mono hbw.size)
  have ltO := (BO.up hb1).lt
  clear BT BO hb1 hbw
  by_cases hV : TV t
  · rw [tb_yes hV]
    have HV := hide hV
    clear hV
    have t0 := HT1.out.cell 0
    have t1 := HT1.out.cell 1
    by_cases hh : 0 ≤ h ∧ h ≤ t.hops.length - 1
    · by_cases hnn : 0 ≤ n ∧ n ≤ 7
      · have HH := hide hh
        have HNN := hide hnn
        go_wp2_with (go_at_call 54; first | (refine (within_t _ _ _ _ ?_).mono ?_; exact hh; rintro e w2 ⟨rfl, rfl⟩) | (refine (within_t _ _ _ _ ?_).mono ?_; exact hnn; rintro e w2 ⟨rfl, rfl⟩))
        refine (copyTable_any _ t _ (hvv.up hb01) hn).mono ?_
        rintro e w3 ⟨c, rfl, hO3, hb3⟩
        obtain ⟨x1, x2, rfl, hx1, hx2, hsep⟩ := hO3
        obtain ⟨B1, cp1, rfl, _, _⟩ := hx1.lit
        obtain ⟨B2, cp2, rfl, _, _⟩ := hx2.lit
        have hb03 := hb01.trans (hb3.mono hb01.size)
        obtain ⟨wc, hwc⟩ : ∃ wc, wc = w3.alloc (Obj.cells #[.slice B1 t.routes.length cp1, .slice B2 t.hops.length cp2] 30) := ⟨_, rfl⟩
        have h3c : Below w3.heap.size w3 wc := by rw [hwc]; exact below1 _ _
        obtain ⟨C, hC⟩ : ∃ C, C = w3.heap.size := ⟨_, rfl⟩
        have hBC : Blk wc C 30 #[.slice B1 t.routes.length cp1, .slice B2 t.hops.length cp2] := by rw [hwc, hC]; exact Blk.new _ _ _
        have h0c := hb03.trans (h3c.mono hb03.size)
        have hX1 := hx1.below h3c
        have hX2 := hx2.below h3c
        have hTc := (HT1.out.up hb3).up h3c
        have hOc := (HO1.out.up hb3).up h3c
        have hsz := hb3.size
        have hlC : C < wc.heap.size := hBC.lt
        have ltO2 := (HO1.out).lt
        have hVL : t.routes.length ≤ 10 := HV.out.len.2
        obtain ⟨j, rfl⟩ := Int.eq_ofNat_of_zero_le hh.1
        have hjl : j < t.hops.length := by omega
        obtain ⟨go, cpg, hx, hgo1, hgo2⟩ := hX2.form (by omega)
        have hA : B2 = some ⟨go, 0, none⟩ := by injection hx
        subst hA
        have hgC : go < C := by rw [hC]; exact (World.ownsRow.lt hx2 go rfl).2
        have hwg : w.heap.size + 1 < go := by have := (World.ownsRow.lt hx2 go rfl).1; omega
        obtain ⟨x0, hx0⟩ := get_some hjl
        obtain ⟨⟨u0, q0⟩, z0⟩ := hX2.slot (k := j) (j := 0) rfl hjl (by decide)
        rw [Nat.mul_one, Nat.add_zero] at q0 z0
        have s1 := hX2.set ic_len (k := j) (j := 0) (x := x0) (y := n) (u := .int .i64 n) rfl hx0 (by decide) rfl
        rw [Nat.mul_one, Nat.add_zero] at s1
        have HS1 := hide s1
        have k0 := hBC.cell 0
        have k1 := hBC.cell 1
        have HTc := hide hTc
        have HOc := hide hOc
        have HBC := hide hBC
        have HX1 := hide hX1
        have HSEP := hide hsep
        clear s1 hx hb3 hb03 hx1 hx2 hX1 hX2 hTc hOc hBC t0 t1 HT1 HO1 h3c hsz hx0 hsep
        go_upto_region 4 with fail
        rw [← hwc, ← hC]
        clear hwc hC
        go_upto_region 5 with fail
        obtain ⟨ws, hws⟩ : ∃ ws, ws = wc.setCell ⟨go, j, none⟩ (.int .i64 n) := ⟨_, rfl⟩
        have HSS : Hid (Own ic 3 1 ws w2.heap.size (.slice (some ⟨go, 0, none⟩) t.hops.length cp2) (t.hops.set j n)) := hide (by rw [hws]; exact HS1.out)
        have HSR : Hid (Own rc 40 3 ws w2.heap.size (.slice B1 t.routes.length cp1) t.routes) := hide (by rw [hws]; exact own_far HX1.out (fun q hq e => HSEP.out q hq (by rw [e]; rfl)) _)
        have HTs : Hid (Blk ws w.heap.size 30 #[.slice A1 t.routes.length cap1, .slice A2 t.hops.length cap2]) := hide (by rw [hws]; exact HTc.out.far (by simp; omega) _)
        have HOs : Hid (Blk ws (w.heap.size + 1) 30 #[nl, nl]) := hide (by rw [hws]; exact HOc.out.far (by simp; omega) _)
        have HCs : Hid (Blk ws C 30 #[.slice B1 t.routes.length cp1, .slice (some ⟨go, 0, none⟩) t.hops.length cp2]) := hide (by rw [hws]; exact HBC.out.far (by simp; omega) _)
        have hbs : Below w.heap.size w ws := by rw [hws]; exact h0c.setCell (by simp; omega) _
        rw [← hws]
        clear hws q0 z0 HS1 HX1 HTc HOc HBC k0 k1 h0c
        have t0 := HTs.out.cell 0
        obtain ⟨wc, hwc⟩ : ∃ wc, wc = ws := ⟨_, rfl⟩
        subst hwc
        go_wp2
        go_loopg [9, 40] (t.routes.length) (fun g cv iv wr => ∃ (k : Nat) (c : Int), k + g = t.routes.length ∧ iv = .int .i64 k ∧ cv = .int .i64 c ∧ 0 ≤ c ∧ c ≤ k ∧ Hid (c = cntH (t.routes.take k) j) ∧ Below wc.heap.size wc wr)
        case atStart => exact ⟨0, 0, by omega, rfl, rfl, by omega, by omega, hide (by simp [cntH]), Below.refl _ _⟩
        case round =>
          obtain ⟨k, c, hk, rfl, rfl, hc0, hc9, HCN, hbe⟩ := hrel
          have hbw := hbs.trans (hbe.mono hbs.size)
          have t0 := (HTs.out.up hbe).cell 0
          by_cases hlt : k < t.routes.length
          · obtain ⟨b, off, rfl, hb, hcell⟩ := hr1 (by omega)
            obtain ⟨r, hck⟩ := get_some hlt
            obtain ⟨g1, g2, g3⟩ := routeAt (hcell.keep (w' := wr) fun p hp => hbw.cell (by omega)) hck
            have htk : t.routes.take (k + 1) = t.routes.take k ++ [r] := by rw [List.take_add_one, hck]; rfl
            have hcn := cntH_snoc (t.routes.take k) r j
            rw [← htk] at hcn
            have HCN' := hide hcn
            clear htk hcn hck
            by_cases hrh : r.hop = (j : Int)
            · have e1 : (r.hop == (j : Int)) = true := by simp [hrh]
              have HN : Hid (c + 1 = cntH (t.routes.take (k + 1)) j) := hide (by have := HCN'.out; rw [if_pos hrh] at this; have := HCN.out; omega)
              clear hrh
              go_upto_region 8 with fail
              obtain ⟨wd, hwd⟩ : ∃ wd, wd = wr.alloc (Obj.cells #[.int .i64 r.pre, .int .i64 r.bits, .int .i64 r.hop] 40) := ⟨_, rfl⟩
              have hbd : Below wc.heap.size wc wd := by rw [hwd]; exact hbe.alloc hbe.size _
              have f3 : wd.cell? ⟨wr.heap.size, 2, none⟩ = some (.int .i64 r.hop) := by rw [hwd]; exact new3_2 _ _ _ _ _
              rw [← hwd]
              clear hwd g1 g2 g3 t0
              go_wp2
              go_roundg (gk - 1)
              case measure => omega
              case rel => exact ⟨k + 1, c + 1, by omega, by go_num, rfl, by omega, by omega, HN, hbd⟩
            · have e1 : (r.hop == (j : Int)) = false := by simp [hrh]
              have HN : Hid (c = cntH (t.routes.take (k + 1)) j) := hide (by have := HCN'.out; rw [if_neg hrh] at this; have := HCN.out; omega)
              clear hrh
              go_upto_region 8 with fail
              obtain ⟨wd, hwd⟩ : ∃ wd, wd = wr.alloc (Obj.cells #[.int .i64 r.pre, .int .i64 r.bits, .int .i64 r.hop] 40) := ⟨_, rfl⟩
              have hbd : Below wc.heap.size wc wd := by rw [hwd]; exact hbe.alloc hbe.size _
              have f3 : wd.cell? ⟨wr.heap.size, 2, none⟩ = some (.int .i64 r.hop) := by rw [hwd]; exact new3_2 _ _ _ _ _
              rw [← hwd]
              clear hwd g1 g2 g3 t0
              go_wp2
              go_roundg (gk - 1)
              case measure => omega
              case rel => exact ⟨k + 1, c, by omega, by go_num, rfl, by omega, by omega, HN, hbd⟩
          · have hcc : c = cntH t.routes j := by have := HCN.out; rw [List.take_of_length_le (by omega)] at this; exact this
            have HCC : Hid (turnT t j n = (⟨t.routes, t.hops.set j n⟩, c)) := hide (by rw [turnT_yes ⟨HV.out, HH.out, HNN.out⟩, hcc]; rfl)
            have c0 := (HCs.out.up hbe).cell 0
            have c1 := (HCs.out.up hbe).cell 1
            have o0 := (HOs.out.up hbe).cell 0
            have o1 := (HOs.out.up hbe).cell 1
            have y0 := (HOs.out.up hbe).free 0
            have y1 := (HOs.out.up hbe).free 1
            clear hcc HCN
            go_wp2_with fail
            refine bodyPost_ret (v := .tuple #[.agg #[.slice B1 t.routes.length cp1, .slice (some ⟨go, 0, none⟩) t.hops.length cp2], .int .i64 c]) (by simp [results, Try.results35, go_sem, o0, o1]) rfl ⟨_, by rw [HCC.out], by rw [HCC.out]; exact ownT_far (HSR.out.below hbe) (HSS.out.below hbe) HSEP.out (by omega) (by omega), (hbw.setCell (by simp) _).setCell (by simp) _⟩
      · have HNN := hide hnn
        have HNO : Hid (turnT t h n = (⟨[], []⟩, -1)) := hide (turnT_no (fun h => HNN.out h.2.2))
        have o0 := HO1.out.cell 0
        have o1 := HO1.out.cell 1
        have z0 := HO1.out.free 0
        have z1 := HO1.out.free 1
        go_wp2_with (go_at_call 54; first | (refine (within_t _ _ _ _ ?_).mono ?_; exact hh; rintro e w2 ⟨rfl, rfl⟩) | (refine (within_f _ _ _ _ ?_).mono ?_; exact hnn; rintro e w2 ⟨rfl, rfl⟩))
        refine bodyPost_ret (v := .tuple #[.agg #[.slice none 0 0, .slice none 0 0], .int .i64 (-1)]) (by simp [results, Try.results35, go_sem, o0, o1]) rfl ⟨_, by rw [HNO.out], by rw [HNO.out]; exact ownT_nil _ _, ?_⟩
        exact (hb01.setCell (by simp) _).setCell (by simp) _
    · have HHN := hide hh
      have HNO : Hid (turnT t h n = (⟨[], []⟩, -1)) := hide (turnT_no (fun h => HHN.out h.2.1))
      have o0 := HO1.out.cell 0
      have o1 := HO1.out.cell 1
      have z0 := HO1.out.free 0
      have z1 := HO1.out.free 1
      go_wp2_with (go_at_call 54; refine (within_f _ _ _ _ ?_).mono ?_; exact hh; rintro e w2 ⟨rfl, rfl⟩)
      refine bodyPost_ret (v := .tuple #[.agg #[.slice none 0 0, .slice none 0 0], .int .i64 (-1)]) (by simp [results, Try.results35, go_sem, o0, o1]) rfl ⟨_, by rw [HNO.out], by rw [HNO.out]; exact ownT_nil _ _, ?_⟩
      exact (hb01.setCell (by simp) _).setCell (by simp) _
  · rw [tb_no hV]
    have HVN := hide hV
    clear hV
    have HNO : Hid (turnT t h n = (⟨[], []⟩, -1)) := hide (turnT_no (fun h => HVN.out h.1))
    have o0 := HO1.out.cell 0
    have o1 := HO1.out.cell 1
    have z0 := HO1.out.free 0
    have z1 := HO1.out.free 1
    go_wp2_with (fail)
    refine bodyPost_ret (v := .tuple #[.agg #[.slice none 0 0, .slice none 0 0], .int .i64 (-1)]) (by simp [results, Try.results35, go_sem, o0, o1]) rfl ⟨_, by rw [HNO.out], by rw [HNO.out]; exact ownT_nil _ _, ?_⟩
    exact (hb01.setCell (by simp) _).setCell (by simp) _
end Go.Proofs.Ytlkchocjldllgaa
