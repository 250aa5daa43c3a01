/- Critical of the program and of the reference. Conditions: at most 1048576 links. -/
import Derived.Test.YtbhkjeicogjfbaaPathS
import Derived.Test.YtbhkjeicogjfbaaWithout2
import Derived.Deep.RegionHeld3
namespace Go.Proofs.Ytbhkjeicogjfbaa
open Go.RowKit

set_option maxRecDepth 100000 in
set_option maxHeartbeats 1600000 in
set_option linter.unusedSimpArgs false in
theorem critical_any (v : Value) (g : Gr) (w : World) (hv : GrR w w.heap.size v g) (hm : g.ls.length ≤ 1048576) :
    Calls Try.prog 47 #[v] w fun e w' => ∃ v', e = .returned v' ∧ Own ic 3 1 w' w.heap.size v' (critL g) ∧ Below w.heap.size w w' := by
  obtain ⟨R, hR⟩ : ∃ R, R = critL g := ⟨_, rfl⟩
  have HR := hide hR
  rw [← hR]
  clear hR
  have hvv := hv
  obtain ⟨A, cap, rfl, hc, hr⟩ := hv.form
  obtain ⟨B, hB⟩ : ∃ B, B = w.heap.size := ⟨_, rfl⟩
  obtain ⟨wb, hwb⟩ : ∃ wb, wb = w.alloc (Obj.cells #[.int .i64 g.n, .slice A g.ls.length cap] 25) := ⟨_, rfl⟩
  have hbw : Below w.heap.size w wb := by rw [hwb]; exact below1 _ _
  have hbB : wb.heap.size = B + 1 := by rw [hwb, hB]; simp
  have HB : Hid (Blk wb B 25 #[.int .i64 g.n, .slice A g.ls.length cap]) := hide (by rw [hwb, hB]; exact Blk.new _ _ _)
  have HV := hide (hvv.up hbw)
  have h1b := below1 wb (Obj.cells #[] 3)
  have hE : Own ic 3 1 (wb.alloc (.cells #[] 3)) wb.heap.size (.slice (some ⟨B + 1, 0, none⟩) 0 0) [] := by rw [← hbB]; exact ownE wb _ (Nat.le_refl _)
  have HE := hide hE
  have HBB := hide hbB
  clear hvv hv hE hbB
  go_enter Try.func47, Try.ntmps47
  go_upto_region 2 with fail
  rw [← hwb, ← hB]
  clear hwb hB
  have c0 := (HB.out.up h1b).cell 0
  have c1 := (HB.out.up h1b).cell 1
  go_wp2_with fail
  refine (graphValid_any _ g _ (HV.out.up h1b) hm).mono ?_
  rintro e w1 ⟨rfl, hb1⟩
  have hb01 := h1b.trans (hb1.mono h1b.size)
  have HE1 := hide (HE.out.below hb1)
  clear c0 c1 HE hb1 h1b
  by_cases hV : ¬ GV g
  · rw [tb_no hV]
    have HRN : Hid (R = []) := hide (by rw [HR.out, critL, okL_no hV])
    clear hV
    go_wp2
    go_ret
    exact ⟨_, rfl, by rw [HRN.out]; exact HE1.out.low hbw.size, hbw.trans (hb01.mono hbw.size)⟩
  have hV' : GV g := Classical.not_not.1 hV
  rw [tb_yes hV']
  have HG := hide hV'
  have hn := hV'.n
  have hlen := hV'.len
  have HRS : Hid (R = selTo (critP g) g.ls.length) := hide (by rw [HR.out, critL, okL_yes hV'])
  have c0 := (HB.out.up hb01).cell 0
  have c1 := (HB.out.up hb01).cell 1
  clear hV hV'
  go_wp2
  clear c0 c1
  go_loopg [3, 16] (g.ls.length) (fun gg rv iv wr => ∃ (k : Nat) (A5 : Option Addr) (c5 : Nat), k + gg = g.ls.length ∧ rv = .slice A5 (selTo (critP g) k).length c5 ∧ iv = .int .i64 k ∧ Below wb.heap.size wb wr ∧ Hid (Own ic 3 1 wr wb.heap.size (.slice A5 (selTo (critP g) k).length c5) (selTo (critP g) k)))
  case atStart => exact ⟨0, _, _, by omega, rfl, rfl, hb01, HE1⟩
  case round =>
    clear HE1 hb01
    obtain ⟨k, A5, c5, hk, rfl, rfl, hbe, HO⟩ := hrel
    obtain ⟨L, hL⟩ : ∃ L, L = selTo (critP g) k := ⟨_, rfl⟩
    have hLl : L.length ≤ 14 := by rw [hL]; have := selTo_len (critP g) k; omega
    rw [← hL] at HO
    rw [← hL]
    have HL := hide hL
    clear hL
    by_cases hlt : k < g.ls.length
    · obtain ⟨b0, off, rfl, hb0, hcell⟩ := hr (by omega)
      obtain ⟨l, hck⟩ := get_some hlt
      have hbwe := hbw.trans (hbe.mono hbw.size)
      obtain ⟨g1, g2, g3⟩ := linkAt (hcell.keep (w' := wr) fun p hp => hbwe.cell (by omega)) hck
      have hlv := HG.out.lv (List.mem_of_getElem? hck)
      have hlk : lkOf g (k : Int) = l := by
        have h := lk_at (g := g) (k := (k : Int)) ⟨by omega, by omega⟩
        rw [Int.toNat_natCast, hck] at h
        cases h; rfl
      obtain ⟨la, lb, lc'⟩ := l
      obtain ⟨na, rfl⟩ := Int.eq_ofNat_of_zero_le hlv.1.1
      obtain ⟨nb, rfl⟩ := Int.eq_ofNat_of_zero_le hlv.2.1.1
      have hnb := hlv.2.1.2
      have hok : GV g ∧ Ix g (k : Int) := ⟨HG.out, ⟨by omega, by omega⟩⟩
      obtain ⟨p, hp⟩ : ∃ p, p = D (Wo g k) na nb := ⟨_, rfl⟩
      have HCP : Hid (critP g (k : Int) ↔ p < 0) := hide (by unfold critP; rw [hlk, Int.toNat_natCast, hp])
      have HNA : Hid (Nd (Wo g k) na) := hide (wo_nd.2 hlv.1)
      simp only at g1 g2 g3
      have h1d := below1 wr (Obj.cells #[.int .i64 na, .int .i64 nb, .int .i64 lc'] 64)
      have HK := hide (Blk.new wr 64 #[.int .i64 na, .int .i64 nb, .int .i64 lc'])
      have HOd := hide (HO.out.below h1d)
      have hbd := hbe.trans (h1d.mono hbe.size)
      obtain ⟨Z, hZ⟩ : ∃ Z, Z = wr.heap.size := ⟨_, rfl⟩
      obtain ⟨wd, hwd⟩ : ∃ wd, wd = wr.alloc (Obj.cells #[.int .i64 na, .int .i64 nb, .int .i64 lc'] 64) := ⟨_, rfl⟩
      rw [← hwd] at HK HOd hbd
      rw [← hZ] at HK
      have c0 := (HB.out.up hbd).cell 0
      have c1 := (HB.out.up hbd).cell 1
      clear h1d HO hck hlk hcell
      go_upto_region 7 with fail
      rw [← hwd, ← hZ]
      clear hwd hZ g1 g2 g3
      go_wp2_with fail
      refine (without_any _ g (k : Int) _ (HV.out.up hbd) hm).mono ?_
      rintro e w7 ⟨v7, rfl, hO7, hb7⟩
      rw [woX_yes hok, Int.toNat_natCast] at hO7
      obtain ⟨G, hG⟩ : ∃ G, G = Wo g k := ⟨_, rfl⟩
      have hgv := wo_gv HG.out k
      have hGn : G.n = g.n := by rw [hG]; rfl
      rw [← hG] at hO7 hgv HNA hp
      have HGV := hide hgv
      have HPD := hide hp
      obtain ⟨A7, c7, rfl⟩ := hO7.lit
      have h78 := below1 w7 (Obj.cells #[.int .i64 G.n, .slice A7 G.ls.length c7] 25)
      have hbe8 := hbd.trans ((hb7.trans (h78.mono hb7.size)).mono hbd.size)
      have HGG := hide (hO7.grr.up h78)
      have HK8 := hide ((HK.out.up hb7).up h78)
      have HO8 := hide ((HOd.out.below hb7).below h78)
      have HY := hide (Blk.new w7 25 #[.int .i64 G.n, .slice A7 G.ls.length c7])
      obtain ⟨Y, hY⟩ : ∃ Y, Y = w7.heap.size := ⟨_, rfl⟩
      obtain ⟨w8, hw8⟩ : ∃ w8, w8 = w7.alloc (Obj.cells #[.int .i64 G.n, .slice A7 G.ls.length c7] 25) := ⟨_, rfl⟩
      rw [← hw8] at hbe8 HGG HY HK8 HO8
      rw [← hY] at HY
      obtain ⟨N, hN⟩ : ∃ N, N = G.n.toNat := ⟨_, rfl⟩
      have hzN : nb < N := by rw [hN, hGn]; omega
      have HN := hide hN
      have HNB : Hid ((nb : Int) < G.n) := hide (by rw [hGn]; exact hnb)
      have hd0 := (Below.refl w8.heap.size w8).drew
      have HC : Hid (∀ X, Below w8.heap.size w8 X → X.cell? ⟨Y, 0, none⟩ = some (.int .i64 G.n) ∧ X.cell? ⟨Y, 1, none⟩ = some (.slice A7 G.ls.length c7) ∧ X.cell? ⟨Z, 0, none⟩ = some (.int .i64 na) ∧ X.cell? ⟨Z, 1, none⟩ = some (.int .i64 nb)) :=
        hide fun X hX => ⟨(HY.out.up hX).cell 0, (HY.out.up hX).cell 1, (HK8.out.up hX).cell 0, (HK8.out.up hX).cell 1⟩
      clear c0 c1 hb7 h78 hO7 hG hgv hp hN hGn hok hlv hnb
      go_upto_region 8 with fail
      rw [← hw8, ← hY]
      clear hw8 hY
      refine wp_region_noPanic ?_
      refine wp_region_held_drew (S := (fun X => X.cell? ⟨Y, 0, none⟩ = some (.int .i64 G.n) ∧ X.cell? ⟨Y, 1, none⟩ = some (.slice A7 G.ls.length c7) ∧ X.cell? ⟨Z, 0, none⟩ = some (.int .i64 na) ∧ X.cell? ⟨Z, 1, none⟩ = some (.int .i64 nb))) (by kernel_rfl) ?_ (fun hHeld => ?_)
      · exact HC.out _ hd0
      refine wpAnyH_take (i := 0) (v := ?_) rfl (by kernel_rfl) (by kernel_rfl) (by kernel_rfl) (fun _ _ _ h => h) (Or.inl ⟨by rfl, ?_⟩) (by assumption) ?_
      rotate_left
      · intro wS hSw
        try dsimp only at hSw
        go_simp
        try (with_reducible rfl)
      try simp only [List.getElem_toArray, List.getElem_cons_succ, List.getElem_cons_zero, Act.put, List.setIfInBounds_toArray, List.set_cons_zero, List.set_cons_succ]
      refine wpAnyH_take (i := 1) (v := ?_) rfl (by kernel_rfl) (by kernel_rfl) (by kernel_rfl) (fun _ _ _ h => h) (Or.inl ⟨by rfl, ?_⟩) (by assumption) ?_
      rotate_left
      · intro wS hSw
        try dsimp only at hSw
        go_simp
        try (with_reducible rfl)
      try simp only [List.getElem_toArray, List.getElem_cons_succ, List.getElem_cons_zero, Act.put, List.setIfInBounds_toArray, List.set_cons_zero, List.set_cons_succ]
      refine wpAnyH_take (i := 2) (v := ?_) rfl (by kernel_rfl) (by kernel_rfl) (by kernel_rfl) (fun _ _ _ h => h) (Or.inl ⟨by rfl, ?_⟩) (by assumption) ?_
      rotate_left
      · intro wS hSw
        try dsimp only at hSw
        go_simp
        try (with_reducible rfl)
      try simp only [List.getElem_toArray, List.getElem_cons_succ, List.getElem_cons_zero, Act.put, List.setIfInBounds_toArray, List.set_cons_zero, List.set_cons_succ]
      refine wpAnyH_take (i := 4) (v := ?_) rfl (by kernel_rfl) (by kernel_rfl) (by kernel_rfl) (fun _ _ _ h => h) (Or.inl ⟨by rfl, ?_⟩) (by assumption) ?_
      rotate_left
      · intro wS hSw
        try dsimp only at hSw
        go_simp
        try (with_reducible rfl)
      try simp only [List.getElem_toArray, List.getElem_cons_succ, List.getElem_cons_zero, Act.put, List.setIfInBounds_toArray, List.set_cons_zero, List.set_cons_succ]
      refine wpAnyH_take (i := 5) (v := ?_) rfl (by kernel_rfl) (by kernel_rfl) (by kernel_rfl) (fun _ _ _ h => h) (Or.inl ⟨by rfl, ?_⟩) (by assumption) ?_
      rotate_left
      · intro wS hSw
        try dsimp only at hSw
        go_simp
        try (with_reducible rfl)
      try simp only [List.getElem_toArray, List.getElem_cons_succ, List.getElem_cons_zero, Act.put, List.setIfInBounds_toArray, List.set_cons_zero, List.set_cons_succ]
      refine wpAnyH_ready (rs := [3]) (by kernel_rfl) (by simp) ?_
      refine AllReadyH.cons rfl (fun K hK => ?_) AllReadyH.nil
      go_simp
      go_at_call 56
      refine (distances_any _ G na _ (HGG.out.up hd0) HGV.out HNA.out).mono ?_
      rw [← HN.out]
      rintro e w4 ⟨o, rfl, hO4, hb4⟩
      have hB4 := hd0.trans hb4
      have x4 := own_int hO4 (show (distL G na)[nb]? = some p by rw [HPD.out]; exact D_at HNB.out)
      go_wp2_with fail
      refine hK.out _ _ ?_ (fun hHeld => ?_)
      · exact HC.out _ hB4
      clear hK K
      try simp only [List.getElem_toArray, List.getElem_cons_succ, List.getElem_cons_zero, Act.put, List.setIfInBounds_toArray, List.set_cons_zero, List.set_cons_succ]
      refine wpAnyH_take (i := 6) (v := ?_) rfl (by kernel_rfl) (by kernel_rfl) (by kernel_rfl) (fun _ _ _ h => h) (Or.inl ⟨by rfl, ?_⟩) (by assumption) ?_
      rotate_left
      · intro wS hSw
        try dsimp only at hSw
        go_simp
        try (with_reducible rfl)
      try simp only [List.getElem_toArray, List.getElem_cons_succ, List.getElem_cons_zero, Act.put, List.setIfInBounds_toArray, List.set_cons_zero, List.set_cons_succ]
      refine wpAnyH_ready (rs := [7]) (by kernel_rfl) (by simp) ?_
      refine AllReadyH.cons rfl (fun K hK => ?_) AllReadyH.nil
      go_simp
      refine hK.out _ _ ?_ (fun hHeld => ?_)
      · exact HC.out _ hB4
      clear hK K
      try simp only [List.getElem_toArray, List.getElem_cons_succ, List.getElem_cons_zero, Act.put, List.setIfInBounds_toArray, List.set_cons_zero, List.set_cons_succ]
      refine wpAnyH_take (i := 8) (v := ?_) rfl (by kernel_rfl) (by kernel_rfl) (by kernel_rfl) (fun _ _ _ h => h) (Or.inl ⟨by rfl, ?_⟩) (by assumption) ?_
      rotate_left
      · intro wS hSw
        try dsimp only at hSw
        go_simp
        try (with_reducible rfl)
      try simp only [List.getElem_toArray, List.getElem_cons_succ, List.getElem_cons_zero, Act.put, List.setIfInBounds_toArray, List.set_cons_zero, List.set_cons_succ]
      refine wpAnyH_done (by kernel_rfl) ?_ _
      refine NoPanic.normal ?_
      have HO9 := hide (HO8.out.below hB4)
      have hbe9 := hbe8.trans (hB4.mono hbe8.size)
      by_cases hp0 : p < 0
      · have n1 : decide (p < 0) = true := decide_eq_true hp0
        have HNx : Hid (selTo (critP g) (k + 1) = L ++ [(k : Int)]) := hide (by rw [selTo_yes (HCP.out.2 hp0), HL.out])
        go_upto_region 10 with (at_builtin; refine wpList_appN (by rfl) infI (.tmp 36) (.tmp 38) (by rfl) _ _ (by rfl) (by rfl) wb L [(k : Int)] (selTo (critP g) (k + 1)) (selTo (critP g) (k + 1)).length HNx.out rfl (HO9.out.below (below1 _ _)) (hbe9.trans ((below1 _ _).mono hbe9.size)) (slr_lit _ _) (by rw [HNx.out]; simp; omega) ?_; intro Ay capy w5 hO5 hg5 hb5)
        have HO5 := hide hO5
        clear hO5 hg5 HO9
        go_wp2
        go_roundg (gk - 1)
        case measure => omega
        case rel => exact ⟨k + 1, _, _, by omega, rfl, by go_num, hb5, HO5⟩
      · have n1 : decide (p < 0) = false := decide_eq_false hp0
        have HNx : Hid (selTo (critP g) (k + 1) = L) := hide (by rw [selTo_no (fun h => hp0 (HCP.out.1 h)), HL.out])
        go_wp2
        go_roundg (gk - 1)
        case measure => omega
        case rel => exact ⟨k + 1, _, c5, by omega, by rw [HNx.out], by go_num, hbe9, by rw [HNx.out]; exact HO9⟩
    · have HRL : Hid (R = L) := hide (by rw [HRS.out, HL.out, show g.ls.length = k from by omega])
      go_wp2
      go_ret
      exact ⟨_, rfl, by rw [HRL.out]; exact HO.out.low hbw.size, hbw.trans (hbe.mono hbw.size)⟩
set_option maxRecDepth 100000 in
set_option maxHeartbeats 1600000 in
set_option linter.unusedSimpArgs false in
theorem specCritical_any (v : Value) (g : Gr) (w : World) (hv : GrR w w.heap.size v g) (hm : g.ls.length ≤ 1048576) :
    Calls Try.prog 48 #[v] w fun e w' => ∃ v', e = .returned v' ∧ Own ic 3 1 w' w.heap.size v' (critL g) ∧ Below w.heap.size w w' := by
  obtain ⟨R, hR⟩ : ∃ R, R = critL g := ⟨_, rfl⟩
  have HR := hide hR
  rw [← hR]
  clear hR
  have hvv := hv
  obtain ⟨A, cap, rfl, hc, hr⟩ := hv.form
  obtain ⟨B, hB⟩ : ∃ B, B = w.heap.size := ⟨_, rfl⟩
  obtain ⟨wb, hwb⟩ : ∃ wb, wb = w.alloc (Obj.cells #[.int .i64 g.n, .slice A g.ls.length cap] 25) := ⟨_, rfl⟩
  have hbw : Below w.heap.size w wb := by rw [hwb]; exact below1 _ _
  have hbB : wb.heap.size = B + 1 := by rw [hwb, hB]; simp
  have HB : Hid (Blk wb B 25 #[.int .i64 g.n, .slice A g.ls.length cap]) := hide (by rw [hwb, hB]; exact Blk.new _ _ _)
  have HV := hide (hvv.up hbw)
  have h1b := below1 wb (Obj.cells #[] 3)
  have hE : Own ic 3 1 (wb.alloc (.cells #[] 3)) wb.heap.size (.slice (some ⟨B + 1, 0, none⟩) 0 0) [] := by rw [← hbB]; exact ownE wb _ (Nat.le_refl _)
  have HE := hide hE
  have HBB := hide hbB
  clear hvv hv hE hbB
  go_enter Try.func48, Try.ntmps48
  go_upto_region 2 with fail
  rw [← hwb, ← hB]
  clear hwb hB
  go_wp2
  go_loopg [3, 4] (g.ls.length) (fun gg rv iv wr => ∃ (k : Nat) (A5 : Option Addr) (c5 : Nat), k + gg = g.ls.length ∧ rv = .slice A5 (selTo (critP g) k).length c5 ∧ iv = .int .i64 k ∧ Below wb.heap.size wb wr ∧ Hid ((k ≠ 0 → GV g) ∧ Own ic 3 1 wr wb.heap.size (.slice A5 (selTo (critP g) k).length c5) (selTo (critP g) k)))
  case atStart => exact ⟨0, _, _, by omega, rfl, rfl, h1b, hide ⟨fun h => absurd rfl h, HE.out⟩⟩
  case round =>
    clear HE h1b
    obtain ⟨k, A5, c5, hk, rfl, rfl, hbe, HOV⟩ := hrel
    obtain ⟨L, hL⟩ : ∃ L, L = selTo (critP g) k := ⟨_, rfl⟩
    have hLlx : k ≤ 14 → L.length ≤ 14 := by rw [hL]; have := selTo_len (critP g) k; omega
    rw [← hL] at HOV
    rw [← hL]
    have HL := hide hL
    have HKV := hide HOV.out.1
    have HO := hide HOV.out.2
    clear hL HOV
    have c0 := (HB.out.up hbe).cell 0
    have c1 := (HB.out.up hbe).cell 1
    by_cases hlt : k < g.ls.length
    · go_wp2_with fail
      refine (specValid_any _ g _ (HV.out.up hbe) hm).mono ?_
      rintro e w1 ⟨rfl, hb1⟩
      have hbd := hbe.trans (hb1.mono hbe.size)
      have HOd := hide (HO.out.below hb1)
      clear c0 c1 hb1 HO
      by_cases hV : GV g
      · rw [tb_yes hV]
        obtain ⟨b0, off, rfl, hb0, hcell⟩ := hr (by omega)
        obtain ⟨l, hck⟩ := get_some hlt
        have hbwd := hbw.trans (hbd.mono hbw.size)
        have hlv := hV.lv (List.mem_of_getElem? hck)
        have hlk : lkOf g (k : Int) = l := by
          have h := lk_at (g := g) (k := (k : Int)) ⟨by omega, by omega⟩
          rw [Int.toNat_natCast, hck] at h
          cases h; rfl
        obtain ⟨la, lb, lc'⟩ := l
        obtain ⟨na, rfl⟩ := Int.eq_ofNat_of_zero_le hlv.1.1
        obtain ⟨nb, rfl⟩ := Int.eq_ofNat_of_zero_le hlv.2.1.1
        have hnb : (nb : Int) < g.n := hlv.2.1.2
        obtain ⟨p, hp⟩ : ∃ p, p = D (Wo g k) na nb := ⟨_, rfl⟩
        have HCP : Hid (critP g (k : Int) ↔ p < 0) := hide (by unfold critP; rw [hlk, Int.toNat_natCast, hp])
        have HNA : Hid (Nd (Wo g k) na) := hide (wo_nd.2 hlv.1)
        have hlen := hV.len
        have hn := hV.n
        have hLl : L.length ≤ 14 := hLlx (by omega)
        obtain ⟨wd, hwd⟩ : ∃ wd, wd = w1 := ⟨_, rfl⟩
        have HVd := hide (HV.out.up hbd)
        have HC : Hid (∀ X, Below w1.heap.size w1 X → X.cell? ⟨B, 0, none⟩ = some (.int .i64 g.n) ∧ X.cell? ⟨B, 1, none⟩ = some (.slice (some ⟨b0, off, none⟩) g.ls.length cap) ∧ X.cell? ⟨b0, off + k * 3, none⟩ = some (.int .i64 na) ∧ X.cell? ⟨b0, off + k * 3 + 1, none⟩ = some (.int .i64 nb)) :=
          hide fun X hX => by
            have hbx := hbwd.trans (hX.mono hbwd.size)
            obtain ⟨g1, g2, g3⟩ := linkAt (hcell.keep (w' := X) fun p hp => hbx.cell (by omega)) hck
            exact ⟨(HB.out.up (hbd.trans (hX.mono hbd.size))).cell 0, (HB.out.up (hbd.trans (hX.mono hbd.size))).cell 1, g1, g2⟩
        have hgv := wo_gv hV k
        obtain ⟨G, hG⟩ : ∃ G, G = Wo g k := ⟨_, rfl⟩
        have hGn : G.n = g.n := by rw [hG]; rfl
        rw [← hG] at hgv HNA hp
        have HGV := hide hgv
        have HPD := hide hp
        have HGE := hide hG
        obtain ⟨N, hN⟩ : ∃ N, N = G.n.toNat := ⟨_, rfl⟩
        have hzN : nb < N := by rw [hN, hGn]; omega
        have HN := hide hN
        have HNB : Hid ((nb : Int) < G.n) := hide (by rw [hGn]; exact hnb)
        have HRS : Hid (R = selTo (critP g) g.ls.length) := hide (by rw [HR.out, critL, okL_yes hV])
        have hd0 := (Below.refl w1.heap.size w1).drew
        have HG := hide hV
        clear hp hN hGn hG hgv hlv hnb hlk hck hcell hV
        go_upto_region 5 with fail
        refine wp_region_noPanic ?_
        refine wp_region_held_drew (S := (fun X => X.cell? ⟨B, 0, none⟩ = some (.int .i64 g.n) ∧ X.cell? ⟨B, 1, none⟩ = some (.slice (some ⟨b0, off, none⟩) g.ls.length cap) ∧ X.cell? ⟨b0, off + k * 3, none⟩ = some (.int .i64 na) ∧ X.cell? ⟨b0, off + k * 3 + 1, none⟩ = some (.int .i64 nb))) (by kernel_rfl) ?_ (fun hHeld => ?_)
        · exact HC.out _ hd0
        refine wpAnyH_take (i := 0) (v := ?_) rfl (by kernel_rfl) (by kernel_rfl) (by kernel_rfl) (fun _ _ _ h => h) (Or.inl ⟨by rfl, ?_⟩) (by assumption) ?_
        rotate_left
        · intro wS hSw
          try dsimp only at hSw
          go_simp
          try (with_reducible rfl)
        try simp only [List.getElem_toArray, List.getElem_cons_succ, List.getElem_cons_zero, Act.put, List.setIfInBounds_toArray, List.set_cons_zero, List.set_cons_succ]
        refine wpAnyH_take (i := 1) (v := ?_) rfl (by kernel_rfl) (by kernel_rfl) (by kernel_rfl) (fun _ _ _ h => h) (Or.inl ⟨by rfl, ?_⟩) (by assumption) ?_
        rotate_left
        · intro wS hSw
          try dsimp only at hSw
          go_simp
          try (with_reducible rfl)
        try simp only [List.getElem_toArray, List.getElem_cons_succ, List.getElem_cons_zero, Act.put, List.setIfInBounds_toArray, List.set_cons_zero, List.set_cons_succ]
        refine wpAnyH_take (i := 3) (v := ?_) rfl (by kernel_rfl) (by kernel_rfl) (by kernel_rfl) (fun _ _ _ h => h) (Or.inl ⟨by rfl, ?_⟩) (by assumption) ?_
        rotate_left
        · intro wS hSw
          try dsimp only at hSw
          go_simp
          try (with_reducible rfl)
        try simp only [List.getElem_toArray, List.getElem_cons_succ, List.getElem_cons_zero, Act.put, List.setIfInBounds_toArray, List.set_cons_zero, List.set_cons_succ]
        refine wpAnyH_take (i := 4) (v := ?_) rfl (by kernel_rfl) (by kernel_rfl) (by kernel_rfl) (fun _ _ _ h => h) (Or.inl ⟨by rfl, ?_⟩) (by assumption) ?_
        rotate_left
        · intro wS hSw
          try dsimp only at hSw
          go_simp
          try (with_reducible rfl)
        try simp only [List.getElem_toArray, List.getElem_cons_succ, List.getElem_cons_zero, Act.put, List.setIfInBounds_toArray, List.set_cons_zero, List.set_cons_succ]
        refine wpAnyH_take (i := 5) (v := ?_) rfl (by kernel_rfl) (by kernel_rfl) (by kernel_rfl) (fun _ _ _ h => h) (Or.inl ⟨by rfl, ?_⟩) (by assumption) ?_
        rotate_left
        · intro wS hSw
          try dsimp only at hSw
          go_simp
          try (with_reducible rfl)
        try simp only [List.getElem_toArray, List.getElem_cons_succ, List.getElem_cons_zero, Act.put, List.setIfInBounds_toArray, List.set_cons_zero, List.set_cons_succ]
        refine wpAnyH_take (i := 6) (v := ?_) rfl (by kernel_rfl) (by kernel_rfl) (by kernel_rfl) (fun _ _ _ h => h) (Or.inl ⟨by rfl, ?_⟩) (by assumption) ?_
        rotate_left
        · intro wS hSw
          try dsimp only at hSw
          go_simp
          try (with_reducible rfl)
        try simp only [List.getElem_toArray, List.getElem_cons_succ, List.getElem_cons_zero, Act.put, List.setIfInBounds_toArray, List.set_cons_zero, List.set_cons_succ]
        refine wpAnyH_take (i := 7) (v := ?_) rfl (by kernel_rfl) (by kernel_rfl) (by kernel_rfl) (fun _ _ _ h => h) (Or.inl ⟨by rfl, ?_⟩) (by assumption) ?_
        rotate_left
        · intro wS hSw
          try dsimp only at hSw
          go_simp
          try (with_reducible rfl)
        try simp only [List.getElem_toArray, List.getElem_cons_succ, List.getElem_cons_zero, Act.put, List.setIfInBounds_toArray, List.set_cons_zero, List.set_cons_succ]
        refine wpAnyH_take (i := 8) (v := ?_) rfl (by kernel_rfl) (by kernel_rfl) (by kernel_rfl) (fun _ _ _ h => h) (Or.inl ⟨by rfl, ?_⟩) (by assumption) ?_
        rotate_left
        · intro wS hSw
          try dsimp only at hSw
          go_simp
          try (with_reducible rfl)
        try simp only [List.getElem_toArray, List.getElem_cons_succ, List.getElem_cons_zero, Act.put, List.setIfInBounds_toArray, List.set_cons_zero, List.set_cons_succ]
        refine wpAnyH_take (i := 10) (v := ?_) rfl (by kernel_rfl) (by kernel_rfl) (by kernel_rfl) (fun _ _ _ h => h) (Or.inl ⟨by rfl, ?_⟩) (by assumption) ?_
        rotate_left
        · intro wS hSw
          try dsimp only at hSw
          go_simp
          try (with_reducible rfl)
        try simp only [List.getElem_toArray, List.getElem_cons_succ, List.getElem_cons_zero, Act.put, List.setIfInBounds_toArray, List.set_cons_zero, List.set_cons_succ]
        refine wpAnyH_take (i := 11) (v := ?_) rfl (by kernel_rfl) (by kernel_rfl) (by kernel_rfl) (fun _ _ _ h => h) (Or.inl ⟨by rfl, ?_⟩) (by assumption) ?_
        rotate_left
        · intro wS hSw
          try dsimp only at hSw
          go_simp
          try (with_reducible rfl)
        try simp only [List.getElem_toArray, List.getElem_cons_succ, List.getElem_cons_zero, Act.put, List.setIfInBounds_toArray, List.set_cons_zero, List.set_cons_succ]
        refine wpAnyH_take (i := 12) (v := ?_) rfl (by kernel_rfl) (by kernel_rfl) (by kernel_rfl) (fun _ _ _ h => h) (Or.inl ⟨by rfl, ?_⟩) (by assumption) ?_
        rotate_left
        · intro wS hSw
          try dsimp only at hSw
          go_simp
          try (with_reducible rfl)
        try simp only [List.getElem_toArray, List.getElem_cons_succ, List.getElem_cons_zero, Act.put, List.setIfInBounds_toArray, List.set_cons_zero, List.set_cons_succ]
        refine wpAnyH_take (i := 13) (v := ?_) rfl (by kernel_rfl) (by kernel_rfl) (by kernel_rfl) (fun _ _ _ h => h) (Or.inl ⟨by rfl, ?_⟩) (by assumption) ?_
        rotate_left
        · intro wS hSw
          try dsimp only at hSw
          go_simp
          try (with_reducible rfl)
        try simp only [List.getElem_toArray, List.getElem_cons_succ, List.getElem_cons_zero, Act.put, List.setIfInBounds_toArray, List.set_cons_zero, List.set_cons_succ]
        refine wpAnyH_take (i := 14) (v := ?_) rfl (by kernel_rfl) (by kernel_rfl) (by kernel_rfl) (fun _ _ _ h => h) (Or.inl ⟨by rfl, ?_⟩) (by assumption) ?_
        rotate_left
        · intro wS hSw
          try dsimp only at hSw
          go_simp
          try (with_reducible rfl)
        try simp only [List.getElem_toArray, List.getElem_cons_succ, List.getElem_cons_zero, Act.put, List.setIfInBounds_toArray, List.set_cons_zero, List.set_cons_succ]
        refine wpAnyH_take (i := 15) (v := ?_) rfl (by kernel_rfl) (by kernel_rfl) (by kernel_rfl) (fun _ _ _ h => h) (Or.inl ⟨by rfl, ?_⟩) (by assumption) ?_
        rotate_left
        · intro wS hSw
          try dsimp only at hSw
          go_simp
          try (with_reducible rfl)
        try simp only [List.getElem_toArray, List.getElem_cons_succ, List.getElem_cons_zero, Act.put, List.setIfInBounds_toArray, List.set_cons_zero, List.set_cons_succ]
        refine wpAnyH_ready (rs := [2]) (by kernel_rfl) (by simp) ?_
        refine AllReadyH.cons rfl (fun K hK => ?_) AllReadyH.nil
        go_simp
        go_at_call 88
        refine (l1Without_any _ g k _ (HVd.out.up hd0) hm hlt).mono ?_
        rintro e w2 ⟨v2, rfl, hO2, hb2⟩
        rw [← HGE.out] at hO2
        obtain ⟨A2, c2, rfl⟩ := hO2.lit
        have hB2 := hd0.trans hb2
        have HG2 := hide hO2.grr
        go_wp2_with fail
        refine hK.out _ _ ?_ (fun hHeld => ?_)
        · exact HC.out _ hB2
        clear hK K
        try simp only [List.getElem_toArray, List.getElem_cons_succ, List.getElem_cons_zero, Act.put, List.setIfInBounds_toArray, List.set_cons_zero, List.set_cons_succ]
        refine wpAnyH_ready (rs := [9]) (by kernel_rfl) (by simp) ?_
        refine AllReadyH.cons rfl (fun K hK => ?_) AllReadyH.nil
        go_simp
        go_at_call 64
        refine (distS_any _ G na _ HG2.out HGV.out HNA.out).mono ?_
        rw [← HN.out]
        rintro e w4 ⟨o, cp, rfl, hO4, hb4⟩
        have hB4 := hB2.trans (hb4.mono hB2.size)
        have x4 := own_int hO4 (show (distL G na)[nb]? = some p by rw [HPD.out]; exact D_at HNB.out)
        go_wp2_with fail
        refine hK.out _ _ ?_ (fun hHeld => ?_)
        · exact HC.out _ hB4
        clear hK K
        try simp only [List.getElem_toArray, List.getElem_cons_succ, List.getElem_cons_zero, Act.put, List.setIfInBounds_toArray, List.set_cons_zero, List.set_cons_succ]
        refine wpAnyH_take (i := 16) (v := ?_) rfl (by kernel_rfl) (by kernel_rfl) (by kernel_rfl) (fun _ _ _ h => h) (Or.inl ⟨by rfl, ?_⟩) (by assumption) ?_
        rotate_left
        · intro wS hSw
          try dsimp only at hSw
          go_simp
          try (with_reducible rfl)
        try simp only [List.getElem_toArray, List.getElem_cons_succ, List.getElem_cons_zero, Act.put, List.setIfInBounds_toArray, List.set_cons_zero, List.set_cons_succ]
        refine wpAnyH_ready (rs := [17]) (by kernel_rfl) (by simp) ?_
        refine AllReadyH.cons rfl (fun K hK => ?_) AllReadyH.nil
        go_simp
        refine hK.out _ _ ?_ (fun hHeld => ?_)
        · exact HC.out _ hB4
        clear hK K
        try simp only [List.getElem_toArray, List.getElem_cons_succ, List.getElem_cons_zero, Act.put, List.setIfInBounds_toArray, List.set_cons_zero, List.set_cons_succ]
        refine wpAnyH_take (i := 18) (v := ?_) rfl (by kernel_rfl) (by kernel_rfl) (by kernel_rfl) (fun _ _ _ h => h) (Or.inl ⟨by rfl, ?_⟩) (by assumption) ?_
        rotate_left
        · intro wS hSw
          try dsimp only at hSw
          go_simp
          try (with_reducible rfl)
        try simp only [List.getElem_toArray, List.getElem_cons_succ, List.getElem_cons_zero, Act.put, List.setIfInBounds_toArray, List.set_cons_zero, List.set_cons_succ]
        refine wpAnyH_done (by kernel_rfl) ?_ _
        refine NoPanic.normal ?_
        have HO9 := hide (HOd.out.below hB4)
        have hbe9 := hbd.trans (hB4.mono hbd.size)
        by_cases hp0 : p < 0
        · have n1 : decide (p < 0) = true := decide_eq_true hp0
          have HNx : Hid (selTo (critP g) (k + 1) = L ++ [(k : Int)]) := hide (by rw [selTo_yes (HCP.out.2 hp0), HL.out])
          go_upto_region 4 with (at_builtin; refine wpList_appN (by rfl) infI (.tmp 36) (.tmp 38) (by rfl) _ _ (by rfl) (by rfl) wb L [(k : Int)] (selTo (critP g) (k + 1)) (selTo (critP g) (k + 1)).length HNx.out rfl (HO9.out.below (below1 _ _)) (hbe9.trans ((below1 _ _).mono hbe9.size)) (slr_lit _ _) (by rw [HNx.out]; simp; omega) ?_; intro Ay capy w5 hO5 hg5 hb5)
          have HO5 := hide hO5
          clear hO5 hg5 HO9
          go_wp2
          go_roundg (gk - 1)
          case measure => omega
          case rel => exact ⟨k + 1, _, _, by omega, rfl, by go_num, hb5, hide ⟨fun _ => HG.out, HO5.out⟩⟩
        · have n1 : decide (p < 0) = false := decide_eq_false hp0
          have HNx : Hid (selTo (critP g) (k + 1) = L) := hide (by rw [selTo_no (fun h => hp0 (HCP.out.1 h)), HL.out])
          go_wp2
          go_roundg (gk - 1)
          case measure => omega
          case rel => exact ⟨k + 1, _, c5, by omega, by rw [HNx.out], by go_num, hbe9, by rw [HNx.out]; exact hide ⟨fun _ => HG.out, HO9.out⟩⟩
      · rw [tb_no hV]
        have hk0 : k = 0 := Classical.byContradiction fun h => hV (HKV.out h)
        have HRL : Hid (R = L) := hide (by rw [HR.out, HL.out, critL, okL_no hV, hk0]; rfl)
        clear hV
        go_wp2
        go_ret
        exact ⟨_, rfl, by rw [HRL.out]; exact HOd.out.low hbw.size, hbw.trans (hbd.mono hbw.size)⟩
    · have HRL : Hid (R = L) := hide (by
        by_cases hV : GV g
        · rw [HR.out, HL.out, critL, okL_yes hV, show g.ls.length = k from by omega]
        · have hk0 : k = 0 := Classical.byContradiction fun h => hV (HKV.out h)
          rw [HR.out, HL.out, critL, okL_no hV, hk0]; rfl)
      go_wp2
      go_ret
      exact ⟨_, rfl, by rw [HRL.out]; exact HO.out.low hbw.size, hbw.trans (hbe.mono hbw.size)⟩
end Go.Proofs.Ytbhkjeicogjfbaa
