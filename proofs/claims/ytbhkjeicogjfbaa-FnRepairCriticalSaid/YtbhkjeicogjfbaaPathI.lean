/- shortestPath, ShortestPath and RepairPath of the program. Conditions: the graph is valid, or at most 1048576 links. -/
import Derived.Test.YtbhkjeicogjfbaaHopN
import Derived.Test.YtbhkjeicogjfbaaWithout2
namespace Go.Proofs.Ytbhkjeicogjfbaa
open Go.RowKit

theorem own_lit (W : World) (x : Int) {base : Nat} (hb : base ≤ W.heap.size) : Own ic 3 1 (W.alloc (.cells #[.int .i64 x] 3)) base (.slice (some ⟨W.heap.size, 0, none⟩) 1 1) [x] :=
  (Blk.new W 3 #[.int .i64 x]).own (l := [x]) hb (Nat.le_refl _) (by unfold maxLen; decide) rfl rfl rfl
set_option maxRecDepth 100000 in
set_option maxHeartbeats 1600000 in
theorem shortestPath_any (v : Value) (g : Gr) (f t : Int) (w : World) (hv : GrR w w.heap.size v g) (hg : GV g) (hf : Nd g f) (ht : Nd g t) :
    Calls Try.prog 119 #[v, .int .i64 f, .int .i64 t] w fun e w' => ∃ v', e = .returned v' ∧ Own ic 3 1 w' w.heap.size v' (pathL g t f) ∧ Below w.heap.size w w' := by
  have hvv := hv
  obtain ⟨A, cap, rfl, hc, hr⟩ := hv.form
  have hn := hg.n
  obtain ⟨nf, rfl⟩ := Int.eq_ofNat_of_zero_le hf.1
  have hfl := hf.2
  have HG := hide hg
  have HNF := hide hf
  have HNT := hide ht
  obtain ⟨wb, hwb⟩ : ∃ wb, wb = w.alloc (Obj.cells #[.int .i64 g.n, .slice A g.ls.length cap] 25) := ⟨_, rfl⟩
  have hbw : Below w.heap.size w wb := by rw [hwb]; exact below1 _ _
  have HB : Hid (Blk wb w.heap.size 25 #[.int .i64 g.n, .slice A g.ls.length cap]) := hide (by rw [hwb]; exact Blk.new _ _ _)
  have HV := hide (hvv.up hbw)
  have c0 := HB.out.cell 0
  have c1 := HB.out.cell 1
  obtain ⟨H, hH⟩ : ∃ H, H = pathL g t nf := ⟨_, rfl⟩
  have HH := hide hH
  rw [← hH]
  clear hv hg hf ht hvv hH hr
  go_enter Try.func119, Try.ntmps119
  go_upto_region 1 with fail
  rw [← hwb]
  clear hwb
  go_wp2_with fail
  refine (distances_any _ g t _ HV.out HG.out HNT.out).mono ?_
  obtain ⟨N, hN⟩ : ∃ N, N = g.n.toNat := ⟨_, rfl⟩
  have HN := hide hN
  rw [← hN]
  rintro e w1 ⟨o, rfl, hO1, hb1⟩
  obtain ⟨q0, hq0⟩ : ∃ q, q = D g t nf := ⟨_, rfl⟩
  have hdf : (distL g t)[nf]? = some q0 := by rw [hq0]; exact D_at hfl
  have x1 := own_int hO1 hdf
  have HQ := hide hq0
  have hNa : (N : Int) ≤ g.n := by omega
  have hNb : g.n ≤ (N : Int) := by omega
  have hb01 := hb1
  clear hdf hq0 hN hO1 c0 c1 hb1
  by_cases hq : q0 < 0
  · have HHn : Hid (H = []) := hide (by rw [HH.out]; exact pathL_no HG.out HNT.out (by rw [← HQ.out]; exact hq))
    go_wp2
    go_ret
    exact ⟨_, rfl, by rw [HHn.out]; exact Own.nil _ _ _ _ _, hbw.trans (hb01.mono hbw.size)⟩
  have HQ0 : Hid (0 ≤ D g t nf) := hide (by rw [← HQ.out]; omega)
  have hE := own_lit w1 (nf : Int) (base := wb.heap.size) hb01.size
  have h12 := below1 w1 (Obj.cells #[.int .i64 (nf : Int)] 3)
  have hb02 := hb01.trans (h12.mono hb01.size)
  obtain ⟨E, hEE⟩ : ∃ E, E = w1.heap.size := ⟨_, rfl⟩
  obtain ⟨w2, hw2⟩ : ∃ w2, w2 = w1.alloc (Obj.cells #[.int .i64 (nf : Int)] 3) := ⟨_, rfl⟩
  rw [← hw2] at hE hb02
  rw [← hEE] at hE
  have HE := hide hE
  clear hE h12 hb01
  go_upto_region 4 with fail
  rw [← hw2, ← hEE]
  clear hw2 hEE x1
  go_loopg [1, 7] ((D g t nf).toNat) (fun gg fv rv wr => ∃ (z : Int) (L : List Int) (A5 : Option Addr) (c5 : Nat), Hid (Nd g z ∧ 0 ≤ D g t z ∧ gg = (D g t z).toNat) ∧ fv = .int .i64 z ∧ rv = .slice A5 L.length c5 ∧ Below wb.heap.size wb wr ∧ Hid (Way g t nf z L) ∧ Hid (Own ic 3 1 wr wb.heap.size (.slice A5 L.length c5) L))
  case atStart => exact ⟨nf, [(nf : Int)], _, _, hide ⟨HNF.out, HQ0.out, rfl⟩, rfl, rfl, hb02, hide (way_start g t nf), HE⟩
  case round =>
    clear HE hb02
    obtain ⟨z, L, A5, c5, HZ, rfl, rfl, hbe, HW, HO⟩ := hrel
    by_cases hzt : z = t
    · have e1 : (z != t) = false := by simp [hzt]
      have HHL : Hid (H = L) := hide (by rw [HH.out]; exact pathL_is (Way.stop (by have := HW.out; rwa [hzt] at this)))
      clear hzt
      go_wp2
      go_ret
      exact ⟨_, rfl, by rw [HHL.out]; exact HO.out.low hbw.size, hbw.trans (hbe.mono hbw.size)⟩
    · have e1 : (z != t) = true := by simp [hzt]
      obtain ⟨hz1, hz2, hz3⟩ := HZ.out
      obtain ⟨m, tl, hh, hp⟩ := hopL_ne HG.out HNT.out hz1 hz2 hzt
      have hpl := hp.lt HG.out
      have HW1 := hide (HW.out.step hzt hh)
      have HZ1 : Hid (Nd g m ∧ 0 ≤ D g t m ∧ (D g t m).toNat < gk) := hide ⟨hpl.2.1, hpl.2.2.1, by omega⟩
      have HHH := hide hh
      have HZN := hide hz1
      have c0 := (HB.out.up hbe).cell 0
      have c1 := (HB.out.up hbe).cell 1
      have hL8 : (L ++ [m]).length ≤ 8 := HW1.out.len HG.out HNT.out hpl.2.1 hpl.2.2.1
      clear hh hp hpl hz1 hz2 hz3 hzt
      go_wp2_with fail
      refine (nextHops_any _ g z t _ (HV.out.up hbe) HG.out HZN.out HNT.out).mono ?_
      rintro e w3 ⟨v3, rfl, hO3, hb3⟩
      rw [HHH.out] at hO3
      obtain ⟨o3, k3, rfl, _, _⟩ := hO3.form (by simp)
      have x3 := own_int hO3 (i := 0) (v := m) rfl
      have HO3 := hide (HO.out.below hb3)
      have hbe3 := hbe.trans (hb3.mono hbe.size)
      have hpos : 0 < (m :: tl).length := by simp
      clear hO3 HO hb3 c0 c1
      obtain ⟨L1, hL1⟩ : ∃ L1, L1 = L ++ [m] := ⟨_, rfl⟩
      rw [← hL1] at HW1 hL8
      have HL1 := hide hL1
      clear hL1
      go_upto_region 6 with fail
      go_wp2_with (at_builtin; refine wpList_appN (by rfl) infI (.tmp 26) (.tmp 28) (by rfl) _ _ (by rfl) (by rfl) wb L [m] L1 L1.length HL1.out rfl (HO3.out.below (below1 _ _)) (hbe3.trans ((below1 _ _).mono hbe3.size)) (slr_lit _ _) (by omega) ?_; intro Ay capy w4 hO4 hg4 hb4)
      have HO4 := hide hO4
      clear hO4 hg4 HO3 x3
      go_roundg ((D g t m).toNat)
      case measure => exact HZ1.out.2.2
      case rel => exact ⟨m, L1, _, _, hide ⟨HZ1.out.1, HZ1.out.2.1, rfl⟩, rfl, rfl, hb4, HW1, HO4⟩
noncomputable def spL (g : Gr) (f t : Int) : List Int := okL (GV g ∧ Nd g f ∧ Nd g t) (pathL g t f)
set_option maxRecDepth 100000 in
set_option maxHeartbeats 800000 in
theorem shortestX_any (v : Value) (g : Gr) (f t : Int) (w : World) (hv : GrR w w.heap.size v g) (hm : g.ls.length ≤ 1048576) :
    Calls Try.prog 111 #[v, .int .i64 f, .int .i64 t] w fun e w' => ∃ v', e = .returned v' ∧ Own ic 3 1 w' w.heap.size v' (spL g f t) ∧ Below w.heap.size w w' := by
  obtain ⟨R, hR⟩ : ∃ R, R = spL g f t := ⟨_, rfl⟩
  rw [← hR]
  have HR := hide hR
  clear hR
  have hvv := hv
  obtain ⟨A, cap, rfl, hc, hr⟩ := hv.form
  obtain ⟨wb, hwb⟩ : ∃ wb, wb = w.alloc (Obj.cells #[.int .i64 g.n, .slice A g.ls.length cap] 25) := ⟨_, rfl⟩
  have hbw : Below w.heap.size w wb := by rw [hwb]; exact below1 _ _
  have HB : Hid (Blk wb w.heap.size 25 #[.int .i64 g.n, .slice A g.ls.length cap]) := hide (by rw [hwb]; exact Blk.new _ _ _)
  have HV := hide (hvv.up hbw)
  clear hr hvv hv
  go_enter Try.func111, Try.ntmps111
  go_wp2_with fail
  rw [← hwb]
  clear hwb
  refine (hasNode_any _ g _ _ HV.out hm).mono ?_
  rintro e w1 ⟨rfl, hb1⟩
  have HB1 := hide (HB.out.up hb1)
  have HV1 := hide (HV.out.up hb1)
  have hb01 := hbw.trans (hb1.mono hbw.size)
  clear HB HV hb1 hbw
  have c0 := HB1.out.cell 0
  have c1 := HB1.out.cell 1
  by_cases hA : GV g ∧ Nd g f
  · rw [tb_yes hA]
    have HA := hide hA
    clear hA
    go_wp2_with fail
    refine (hasNode_any _ g _ _ HV1.out hm).mono ?_
    rintro e w2 ⟨rfl, hb2⟩
    have HB2 := hide (HB1.out.up hb2)
    have HV2 := hide (HV1.out.up hb2)
    have hb02 := hb01.trans (hb2.mono hb01.size)
    clear HB1 HV1 hb2 hb01 c0 c1
    have c0 := HB2.out.cell 0
    have c1 := HB2.out.cell 1
    by_cases hA2 : GV g ∧ Nd g t
    · rw [tb_yes hA2]
      have HA2 := hide hA2
      clear hA2
      go_wp2_with fail
      refine (shortestPath_any _ g f t _ HV2.out HA.out.1 HA.out.2 HA2.out.2).mono ?_
      rintro e w3 ⟨v3, rfl, hO3, hb3⟩
      have HO3 := hide hO3
      clear hO3
      go_wp2
      go_ret
      exact ⟨_, rfl, by rw [HR.out, spL, okL_yes ⟨HA.out.1, HA.out.2, HA2.out.2⟩]; exact HO3.out.low hb02.size, hb02.trans (hb3.mono hb02.size)⟩
    · rw [tb_no hA2]
      have HA2 := hide hA2
      clear hA2
      go_wp2
      go_ret
      exact ⟨_, rfl, by rw [HR.out, spL, okL_no fun h => HA2.out ⟨h.1, h.2.2⟩]; exact Own.nil _ _ _ _ _, hb02⟩
  · rw [tb_no hA]
    have HA := hide hA
    clear hA
    go_wp2
    go_ret
    exact ⟨_, rfl, by rw [HR.out, spL, okL_no fun h => HA.out ⟨h.1, h.2.1⟩]; exact Own.nil _ _ _ _ _, hb01⟩
theorem spL_rep {g : Gr} {f k t : Int} (h : GV g ∧ Ix g k) : spL (Wo g k.toNat) f t = repL g f k t := by
  have hw := wo_gv h.1 k.toNat
  unfold spL repL
  by_cases hk : Ok g f k ∧ Nd g t
  · rw [okL_yes hk, okL_yes ⟨hw, wo_nd.2 hk.1.2.2, wo_nd.2 hk.2⟩]
  · rw [okL_no hk, okL_no fun hh => hk ⟨⟨h.1, h.2, wo_nd.1 hh.2.1⟩, wo_nd.1 hh.2.2⟩]
set_option maxRecDepth 100000 in
set_option maxHeartbeats 800000 in
theorem repairPath_any (v : Value) (g : Gr) (f k t : Int) (w : World) (hv : GrR w w.heap.size v g) (hm : g.ls.length ≤ 1048576) :
    Calls Try.prog 89 #[v, .int .i64 f, .int .i64 k, .int .i64 t] w fun e w' => ∃ v', e = .returned v' ∧ Own ic 3 1 w' w.heap.size v' (repL g f k t) ∧ Below w.heap.size w w' := by
  obtain ⟨R, hR⟩ : ∃ R, R = repL g f k t := ⟨_, rfl⟩
  rw [← hR]
  have HR := hide hR
  clear hR
  have hvv := hv
  obtain ⟨A, cap, rfl, hc, hr⟩ := hv.form
  obtain ⟨wb, hwb⟩ : ∃ wb, wb = w.alloc (Obj.cells #[.int .i64 g.n, .slice A g.ls.length cap] 25) := ⟨_, rfl⟩
  have hbw : Below w.heap.size w wb := by rw [hwb]; exact below1 _ _
  have HB : Hid (Blk wb w.heap.size 25 #[.int .i64 g.n, .slice A g.ls.length cap]) := hide (by rw [hwb]; exact Blk.new _ _ _)
  have HV := hide (hvv.up hbw)
  clear hr hvv hv
  go_enter Try.func89, Try.ntmps89
  go_wp2_with fail
  rw [← hwb]
  clear hwb
  refine (without_any _ g k _ HV.out hm).mono ?_
  rintro e w1 ⟨v1, rfl, hO1, hb1⟩
  obtain ⟨G, hG⟩ : ∃ G, G = woX g k := ⟨_, rfl⟩
  have hGl : G.ls.length ≤ 1048576 := by
    rw [hG]
    by_cases h : GV g ∧ Ix g k
    · rw [woX_yes h]; exact Nat.le_trans (List.length_eraseIdx_le _ _) hm
    · rw [woX_no h]; simp
  rw [← hG] at hO1
  have HGX := hide hG
  obtain ⟨A1, c1', rfl⟩ := hO1.lit
  have h12 := below1 w1 (Obj.cells #[.int .i64 G.n, .slice A1 G.ls.length c1'] 25)
  have hb01 := hbw.trans (hb1.mono hbw.size)
  have hb02 := hb01.trans (h12.mono hb01.size)
  have HG2 := hide (hO1.grr.up h12)
  have HX := hide (Blk.new w1 25 #[.int .i64 G.n, .slice A1 G.ls.length c1'])
  obtain ⟨E, hEE⟩ : ∃ E, E = w1.heap.size := ⟨_, rfl⟩
  obtain ⟨w2, hw2⟩ : ∃ w2, w2 = w1.alloc (Obj.cells #[.int .i64 G.n, .slice A1 G.ls.length c1'] 25) := ⟨_, rfl⟩
  rw [← hw2] at hb02 HG2 HX
  rw [← hEE] at HX
  clear hO1 h12 hb01 hG HB HV
  go_upto_region 2 with fail
  rw [← hw2, ← hEE]
  clear hw2 hEE
  have c0 := HX.out.cell 0
  have c1 := HX.out.cell 1
  by_cases hA : GV g ∧ Ix g k
  · rw [tb_yes hA]
    have HA := hide hA
    clear hA
    go_wp2_with fail
    refine (shortestX_any _ G f t _ HG2.out hGl).mono ?_
    rintro e w3 ⟨v3, rfl, hO3, hb3⟩
    have HO3 := hide hO3
    have HRE : Hid (R = spL G f t) := hide (by rw [HR.out, HGX.out, woX_yes HA.out, spL_rep HA.out])
    clear hO3
    go_wp2
    go_ret
    exact ⟨_, rfl, by rw [HRE.out]; exact HO3.out.low hb02.size, hb02.trans (hb3.mono hb02.size)⟩
  · rw [tb_no hA]
    have HA := hide hA
    clear hA
    go_wp2
    go_ret
    exact ⟨_, rfl, by rw [HR.out, repL, okL_no fun h => HA.out ⟨h.1.1, h.1.2.1⟩]; exact Own.nil _ _ _ _ _, hb02⟩
end Go.Proofs.Ytbhkjeicogjfbaa
