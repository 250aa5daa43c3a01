/- Distances of the reference: distL. Conditions: the graph is valid, the node is one of its nodes. -/
import Derived.Test.YtbhkjeicogjfbaaAppI
namespace Go.Proofs.Ytbhkjeicogjfbaa
open Go.RowKit
set_option maxRecDepth 100000 in
set_option maxHeartbeats 3200000 in
theorem distS_any (v : Value) (g : Gr) (x : Int) (w : World) (hv : GrR w w.heap.size v g) (hg : GV g) (hx : Nd g x) :
    Calls Try.prog 64 #[v, .int .i64 x] w fun e w' => ∃ o cp, e = .returned (.slice (some ⟨o, 0, none⟩) g.n.toNat cp) ∧ Own ic 3 1 w' w.heap.size (.slice (some ⟨o, 0, none⟩) g.n.toNat cp) (distL g x) ∧ Below w.heap.size w w' := by
  obtain ⟨A, cap, rfl, hc, hr⟩ := hv.form
  clear hv
  obtain ⟨hn1, hn2⟩ := hg.n
  have hlen := hg.len
  obtain ⟨hx0, hx1⟩ := hx
  have HG := hide hg
  clear hg
  obtain ⟨N, hN⟩ : ∃ N : Nat, g.n = N := ⟨g.n.toNat, by omega⟩
  obtain ⟨nx, rfl⟩ := Int.eq_ofNat_of_zero_le hx0
  have HN := hide hN
  have hNt : g.n.toNat = N := by omega
  rw [hNt]
  have HST : Hid (start g.n (nx : Int) = (List.replicate N (-1)).set nx 0) := hide (by unfold start; rw [hNt, Int.toNat_natCast])
  have hnN : nx < N := by omega
  have hN8 : N ≤ 8 := by omega
  have hN1 : 1 ≤ N := by omega
  rw [hN]
  clear hN hNt
  obtain ⟨wb, hwb⟩ : ∃ wb, wb = w.alloc (Obj.cells #[.int .i64 (N : Int), .slice A g.ls.length cap] 25) := ⟨_, rfl⟩
  have hbw : Below w.heap.size w wb := by rw [hwb]; exact below1 _ _
  have HB : Hid (Blk wb w.heap.size 25 #[.int .i64 (N : Int), .slice A g.ls.length cap]) := hide (by rw [hwb]; exact Blk.new _ _ _)
  have hwbs : wb.heap.size = w.heap.size + 1 := by rw [hwb]; simp
  go_enter Try.func64, Try.ntmps64
  go_wp2_with fail
  rw [← hwb]
  clear hwb
  go_loopg [5, 6] (N) (fun gg rv iv wr => ∃ (k : Nat) (A5 : Option Addr) (c5 : Nat), k + gg = N ∧ rv = .slice A5 k c5 ∧ iv = .int .i64 k ∧ Below wb.heap.size wb wr ∧ Hid (Own ic 3 1 wr wb.heap.size (.slice A5 k c5) (List.replicate k (-1))))
  case atStart => exact ⟨0, _, _, by omega, rfl, rfl, below1 _ _, hide (by rw [← hwbs]; exact ownE wb _ (Nat.le_refl _))⟩
  case round =>
    obtain ⟨k, A5, c5, hk, rfl, rfl, hbe, HO⟩ := hrel
    have HBr := hide (HB.out.up hbe)
    have c0 := HBr.out.cell 0
    have c1 := HBr.out.cell 1
    by_cases hlt : k < N
    · go_upto_region 4 with (at_builtin; refine wpList_appN (by rfl) infI (.tmp 17) (.tmp 18) (by rfl) _ _ (by rfl) (by rfl) wb (List.replicate k (-1)) [-1] (List.replicate (k + 1) (-1)) (k + 1) (by rw [List.replicate_succ']) (by simp) (HO.out.below (below1 _ _)) (hbe.trans ((below1 _ _).mono hbe.size)) (slr_lit _ _) (by omega) ?_; intro Ay capy w2 hO2 hg2 hb2)
      have HO2 := hide hO2
      clear hO2 hg2 c0 c1 HBr HO hbe
      go_wp2
      go_roundg (gk - 1)
      case measure => omega
      case rel => exact ⟨k + 1, _, _, by omega, rfl, by go_num, hb2, HO2⟩
    · have hkN : k = N := by omega
      subst hkN
      clear hlt hk
      have ho' := HO.out
      obtain ⟨o, hA⟩ : ∃ o, A5 = some ⟨o, 0, none⟩ := by
        obtain ⟨g', cap', hh, _⟩ := ho'.form (by simp; omega)
        injection hh with h1 _ _
        exact ⟨_, h1⟩
      subst hA
      have hob : w.heap.size < o := by have := (World.ownsRow.lt ho' o rfl).1; omega
      have hO2' := ho'.low (base' := w.heap.size) (by omega)
      have hx1 := own_int hO2' (i := nx) (v := -1) (by rw [List.getElem?_replicate, if_pos hnN])
      have hz1 := own_free hO2' nx
      have hS := own_put hO2' (i := nx) (by simp; exact hnN) 0
      rw [← HST.out] at hS
      have HS := hide hS
      have HBS := hide (HBr.out.far (p := ⟨o, nx, none⟩) (by show w.heap.size ≠ o; omega) (.int .i64 0))
      have hb3 := (hbw.trans (hbe.mono hbw.size)).setCell (p := ⟨o, nx, none⟩) (by show w.heap.size ≤ o; omega) (.int .i64 0)
      clear ho' hO2' hS HBr hbe HO HB hbw hwbs
      go_upto_region 7 with fail
      obtain ⟨w3, hw3⟩ : ∃ w3, w3 = wr.setCell ⟨o, nx, none⟩ (.int .i64 0) := ⟨_, rfl⟩
      rw [← hw3] at HS HBS hb3
      rw [← hw3]
      clear hw3 hx1 hz1 c0 c1
      go_wp2
      go_loopg [7] (k) (fun gg iv wr => ∃ (r : Nat) (d : List Int), r + gg = k ∧ iv = .int .i64 r ∧ Below w.heap.size w wr ∧ Hid (d = iter g.ls (start g.n (nx : Int)) r) ∧ Hid (Own ic 3 1 wr w.heap.size (.slice (some ⟨o, 0, none⟩) k c5) d) ∧ Hid (Blk wr w.heap.size 25 #[.int .i64 (k : Int), .slice A g.ls.length cap]))
      case atStart => exact ⟨0, _, by omega, rfl, hb3, hide rfl, HS, HBS⟩
      case round =>
        clear HS HBS hb3
        obtain ⟨r, d, hr', rfl, hbe, HD, HO, HGB⟩ := hrel
        obtain ⟨N, hNk⟩ : ∃ N, N = k := ⟨k, rfl⟩
        subst hNk
        have c0 := HGB.out.cell 0
        by_cases hlr : r < N
        · have c1 := HGB.out.cell 1
          have hN8' := hN8
          obtain ⟨wo, hwo⟩ : ∃ wo, wo = wr := ⟨_, rfl⟩
          subst hwo
          obtain ⟨gko, hgko⟩ : ∃ z, z = gk := ⟨_, rfl⟩
          subst hgko
          go_wp2
          clear c0 c1
          go_loopg [8] (g.ls.length) (fun gg iv wr => ∃ (k : Nat) (dk : List Int), k + gg = g.ls.length ∧ iv = .int .i64 k ∧ Below w.heap.size w wr ∧ Hid (dk = (g.ls.take k).foldl relax d) ∧ Hid (Own ic 3 1 wr w.heap.size (.slice (some ⟨o, 0, none⟩) N c5) dk) ∧ Hid (Blk wr w.heap.size 25 #[.int .i64 (N : Int), .slice A g.ls.length cap]))
          case atStart => exact ⟨0, d, by omega, rfl, hbe, hide rfl, HO, HGB⟩
          case round =>
            clear HO HGB hbe
            obtain ⟨k, dk, hk, rfl, hbe, HDK, HO, HGB⟩ := hrel
            have c1 := HGB.out.cell 1
            by_cases hlt : k < g.ls.length
            · obtain ⟨b, off, rfl, hb, hcell⟩ := hr (by omega)
              obtain ⟨l, hck⟩ := get_some hlt
              have hlv := HG.out.lv (List.mem_of_getElem? hck)
              obtain ⟨g1, g2, g3⟩ := linkAt (hcell.keep (w' := wr) fun p hp => hbe.cell (by omega)) hck
              obtain ⟨la, lb, c⟩ := l
              unfold LV Nd at hlv
              simp only at hlv g1 g2 g3
              obtain ⟨⟨l1, l2⟩, ⟨l3, l4⟩, l5, l6, l7⟩ := hlv
              obtain ⟨na, rfl⟩ := Int.eq_ofNat_of_zero_le l1
              obtain ⟨nb, rfl⟩ := Int.eq_ofNat_of_zero_le l3
              have hNN := HN.out
              have hnaN : na < N := by omega
              have hnbN : nb < N := by omega
              have hab : na ≠ nb := by omega
              have hba : nb ≠ na := by omega
              have hcc : 1 ≤ c ∧ c ≤ 20 := ⟨l6, l7⟩
              have HC := hide hck
              obtain ⟨M, hM⟩ : ∃ M : Int, M = 560 * (r : Int) + 40 * (k : Int) := ⟨_, rfl⟩
              have HBK : Hid (Bd M dk) := hide (by
                rw [HDK.out, HD.out, hM]
                have h := sweep_bd (ls := g.ls.take k) (iter_bd HG.out (start_bd g.n (nx : Int)) r) (fun m hm => (HG.out.lv (List.mem_of_mem_take hm)).2.2.2)
                rw [List.length_take, Nat.min_eq_left (by omega)] at h
                exact h)
              have hM1 : M ≤ 10000 := by omega
              have HLK : Hid (dk.length = N) := hide (HO.out.caps.1.symm)
              have hoK : o ≠ wr.heap.size := by have := (World.ownsRow.lt HO.out o rfl).2; omega
              have hoG : o ≠ w.heap.size := by omega
              clear hck hM hNN l1 l3
              go_upto_region 14 with fail
              obtain ⟨wd, hwd⟩ : ∃ wd, wd = wr.alloc (Obj.cells #[.int .i64 (na : Int), .int .i64 (nb : Int), .int .i64 c] 64) := ⟨_, rfl⟩
              have h1d : Below wr.heap.size wr wd := by rw [hwd]; exact below1 _ _
              have HK : Hid (Blk wd wr.heap.size 64 #[.int .i64 na, .int .i64 nb, .int .i64 c]) := hide (by rw [hwd]; exact Blk.new _ _ _)
              have HOd := hide (HO.out.below h1d)
              have HGd := hide (HGB.out.up h1d)
              have hbd := hbe.trans (h1d.mono hbe.size)
              rw [← hwd]
              clear hwd h1d HO HGB hbe g1 g2 g3 c1
              have hda := at_nat (d := dk) (i := na) (by have := HLK.out; omega)
              have hdb := at_nat (d := dk) (i := nb) (by have := HLK.out; omega)
              obtain ⟨va1, hva1⟩ : ∃ z, z = at' dk (na : Nat) := ⟨_, rfl⟩
              obtain ⟨vb1, hvb1⟩ : ∃ z, z = at' dk (nb : Nat) := ⟨_, rfl⟩
              rw [← hva1] at hda
              rw [← hvb1] at hdb
              have hbva := HBK.out (na : Nat)
              have hbvb := HBK.out (nb : Nat)
              rw [← hva1] at hbva
              rw [← hvb1] at hbvb
              have HVE1 : Hid (rel1 dk (na : Nat) (nb : Nat) c = if 0 ≤ va1 ∧ (vb1 < 0 ∨ va1 + c < vb1) then dk.set nb (va1 + c) else dk) := hide (by unfold rel1; rw [← hva1, ← hvb1, Int.toNat_natCast])
              have HDA1 := hide hda
              have HDB1 := hide hdb
              have xa := own_int HOd.out hda
              have xb := own_int HOd.out hdb
              have k0 := HK.out.cell 0
              have k1 := HK.out.cell 1
              have k2 := HK.out.cell 2
              have hwr : IntKind.i64.wrap (va1 + c) = va1 + c := by rw [IntKind.wrap_i64]; omega
              clear hda hdb hva1 hvb1
              go_upto_region 14 with fail
              go_cut [70] (fun s wx => s = .bool (tb (0 ≤ va1 ∧ (vb1 < 0 ∨ va1 + c < vb1))) ∧ Below wd.heap.size wd wx)
              case first =>
                have e1 := fun y => wext_cell wd y xa
                have e2 := fun y => wext_cell wd y xb
                have e3 := fun y => wext_cell wd y k0
                have e4 := fun y => wext_cell wd y k1
                have e5 := fun y => wext_cell wd y k2
                by_cases c1 : 0 ≤ va1
                · by_cases c2 : vb1 < 0
                  · refine region_q (by kernel_rfl) (by kernel_rfl) ?_
                    repeat (go_big_quiet_step ((first | (fail))))
                    refine wpQuiet_nil ?_
                    intro wx hbx
                    go_wp2_with fail
                    go_meet
                    exact ⟨by rw [(show tb (0 ≤ va1 ∧ (vb1 < 0 ∨ va1 + c < vb1)) = true from tb_yes ⟨c1, .inl c2⟩)], hbx⟩
                  · by_cases c3 : va1 + c < vb1
                    · refine region_q (by kernel_rfl) (by kernel_rfl) ?_
                      repeat (go_big_quiet_step ((first | (fail))))
                      refine wpQuiet_nil ?_
                      intro wx hbx
                      go_wp2_with fail
                      go_meet
                      exact ⟨by rw [(show tb (0 ≤ va1 ∧ (vb1 < 0 ∨ va1 + c < vb1)) = true from tb_yes ⟨c1, .inr c3⟩)], hbx⟩
                    · refine region_q (by kernel_rfl) (by kernel_rfl) ?_
                      repeat (go_big_quiet_step ((first | (fail))))
                      refine wpQuiet_nil ?_
                      intro wx hbx
                      go_wp2_with fail
                      go_meet
                      exact ⟨by rw [(show tb (0 ≤ va1 ∧ (vb1 < 0 ∨ va1 + c < vb1)) = false from tb_no fun h => by omega)], hbx⟩
                · refine region_q (by kernel_rfl) (by kernel_rfl) ?_
                  repeat (go_big_quiet_step ((first | (fail))))
                  refine wpQuiet_nil ?_
                  intro wx hbx
                  go_wp2_with fail
                  go_meet
                  exact ⟨by rw [(show tb (0 ≤ va1 ∧ (vb1 < 0 ∨ va1 + c < vb1)) = false from tb_no fun h => by omega)], hbx⟩
              case rest =>
                obtain ⟨rfl, hbc1⟩ := hcut
                obtain ⟨wn1, hwn1⟩ : ∃ wn, wn = wc := ⟨_, rfl⟩
                subst hwn1
                clear xa xb k0 k1 k2
                have HO10 := hide (HOd.out.below hbc1)
                have HK10 := hide (HK.out.up hbc1)
                have HG10 := hide (HGd.out.up hbc1)
                have hbe10 := hbd.trans (hbc1.mono hbd.size)
                by_cases hC : 0 ≤ va1 ∧ (vb1 < 0 ∨ va1 + c < vb1)
                · rw [tb_yes hC]
                  have hlt1 := get_lt HDB1.out
                  have HD1 : Hid (rel1 dk (na : Nat) (nb : Nat) c = dk.set nb (va1 + c)) := hide (by rw [HVE1.out, if_pos hC])
                  have hbd1 : Bd (M + 20) (dk.set nb (va1 + c)) := by rw [← HD1.out]; exact rel1_bd HBK.out hcc
                  have HBD1 := hide hbd1
                  have HL1 : Hid ((dk.set nb (va1 + c)).length = N) := hide (by rw [List.length_set]; exact HLK.out)
                  have hp1 := own_put HO10.out hlt1 (va1 + c)
                  have xa := own_int HO10.out HDA1.out
                  have xb := own_int HO10.out HDB1.out
                  have yb := own_free HO10.out nb
                  have k0 := HK10.out.cell 0
                  have k1 := HK10.out.cell 1
                  have k2 := HK10.out.cell 2
                  have HP1 := hide hp1
                  have HKn1 := hide (HK10.out.far (p := ⟨o, nb, none⟩) (fun h => hoK h.symm) (.int .i64 (va1 + c)))
                  have HGn1 := hide (HG10.out.far (p := ⟨o, nb, none⟩) (fun h => hoG h.symm) (.int .i64 (va1 + c)))
                  have hbn1 := hbe10.setCell (p := ⟨o, nb, none⟩) (by show w.heap.size ≤ o; omega) (.int .i64 (va1 + c))
                  clear hC hp1 hbd1 HO10 HK10 HG10
                  go_upto_region 15 with fail
                  go_region
                  obtain ⟨wm1, hwm1⟩ : ∃ wm, wm = (wn1.setCell ⟨o, nb, none⟩ (.int .i64 (va1 + c))).drew := ⟨_, rfl⟩
                  have HQ1 : Hid (Own ic 3 1 wm1 w.heap.size (.slice (some ⟨o, 0, none⟩) N c5) (dk.set nb (va1 + c))) := hide (by rw [hwm1]; exact World.ownsRow.drew HP1.out)
                  have HKm1 : Hid (Blk wm1 wr.heap.size 64 #[.int .i64 na, .int .i64 nb, .int .i64 c]) := hide (by rw [hwm1]; exact HKn1.out)
                  have HGm1 : Hid (Blk wm1 w.heap.size 25 #[.int .i64 (N : Int), .slice (some ⟨b, off, none⟩) g.ls.length cap]) := hide (by rw [hwm1]; exact HGn1.out)
                  have hbm1 : Below w.heap.size w wm1 := by rw [hwm1]; exact hbn1.drew
                  rw [← hwm1]
                  clear hwm1 xa xb yb k0 k1 k2 HP1 HKn1 HGn1 hbn1
                  have HE1 : Hid (rel1 dk (na : Nat) (nb : Nat) c = (dk.set nb (va1 + c))) := hide HD1.out
                  have hda := at_nat (d := (dk.set nb (va1 + c))) (i := nb) (by have := HL1.out; omega)
                  have hdb := at_nat (d := (dk.set nb (va1 + c))) (i := na) (by have := HL1.out; omega)
                  obtain ⟨va2, hva2⟩ : ∃ z, z = at' (dk.set nb (va1 + c)) (nb : Nat) := ⟨_, rfl⟩
                  obtain ⟨vb2, hvb2⟩ : ∃ z, z = at' (dk.set nb (va1 + c)) (na : Nat) := ⟨_, rfl⟩
                  rw [← hva2] at hda
                  rw [← hvb2] at hdb
                  have hbva := HBD1.out (nb : Nat)
                  have hbvb := HBD1.out (na : Nat)
                  rw [← hva2] at hbva
                  rw [← hvb2] at hbvb
                  have HVE2 : Hid (rel1 (dk.set nb (va1 + c)) (nb : Nat) (na : Nat) c = if 0 ≤ va2 ∧ (vb2 < 0 ∨ va2 + c < vb2) then (dk.set nb (va1 + c)).set na (va2 + c) else (dk.set nb (va1 + c))) := hide (by unfold rel1; rw [← hva2, ← hvb2, Int.toNat_natCast])
                  have HDA2 := hide hda
                  have HDB2 := hide hdb
                  have xa := own_int HQ1.out hda
                  have xb := own_int HQ1.out hdb
                  have k0 := HKm1.out.cell 0
                  have k1 := HKm1.out.cell 1
                  have k2 := HKm1.out.cell 2
                  have hwr : IntKind.i64.wrap (va2 + c) = va2 + c := by rw [IntKind.wrap_i64]; omega
                  clear hda hdb hva2 hvb2
                  go_upto_region 16 with fail
                  go_cut [112] (fun s wx => s = .bool (tb (0 ≤ va2 ∧ (vb2 < 0 ∨ va2 + c < vb2))) ∧ Below wm1.heap.size wm1 wx)
                  case first =>
                    have e1 := fun y => wext_cell wm1 y xa
                    have e2 := fun y => wext_cell wm1 y xb
                    have e3 := fun y => wext_cell wm1 y k0
                    have e4 := fun y => wext_cell wm1 y k1
                    have e5 := fun y => wext_cell wm1 y k2
                    by_cases c1 : 0 ≤ va2
                    · by_cases c2 : vb2 < 0
                      · refine region_q (by kernel_rfl) (by kernel_rfl) ?_
                        repeat (go_big_quiet_step ((first | (fail))))
                        refine wpQuiet_nil ?_
                        intro wx hbx
                        go_wp2_with fail
                        go_meet
                        exact ⟨by rw [(show tb (0 ≤ va2 ∧ (vb2 < 0 ∨ va2 + c < vb2)) = true from tb_yes ⟨c1, .inl c2⟩)], hbx⟩
                      · by_cases c3 : va2 + c < vb2
                        · refine region_q (by kernel_rfl) (by kernel_rfl) ?_
                          repeat (go_big_quiet_step ((first | (fail))))
                          refine wpQuiet_nil ?_
                          intro wx hbx
                          go_wp2_with fail
                          go_meet
                          exact ⟨by rw [(show tb (0 ≤ va2 ∧ (vb2 < 0 ∨ va2 + c < vb2)) = true from tb_yes ⟨c1, .inr c3⟩)], hbx⟩
                        · refine region_q (by kernel_rfl) (by kernel_rfl) ?_
                          repeat (go_big_quiet_step ((first | (fail))))
                          refine wpQuiet_nil ?_
                          intro wx hbx
                          go_wp2_with fail
                          go_meet
                          exact ⟨by rw [(show tb (0 ≤ va2 ∧ (vb2 < 0 ∨ va2 + c < vb2)) = false from tb_no fun h => by omega)], hbx⟩
                    · refine region_q (by kernel_rfl) (by kernel_rfl) ?_
                      repeat (go_big_quiet_step ((first | (fail))))
                      refine wpQuiet_nil ?_
                      intro wx hbx
                      go_wp2_with fail
                      go_meet
                      exact ⟨by rw [(show tb (0 ≤ va2 ∧ (vb2 < 0 ∨ va2 + c < vb2)) = false from tb_no fun h => by omega)], hbx⟩
                  case rest =>
                    obtain ⟨rfl, hbc2⟩ := hcut
                    obtain ⟨wn2, hwn2⟩ : ∃ wn, wn = wc := ⟨_, rfl⟩
                    subst hwn2
                    clear xa xb k0 k1 k2
                    have HO20 := hide (HQ1.out.below hbc2)
                    have HK20 := hide (HKm1.out.up hbc2)
                    have HG20 := hide (HGm1.out.up hbc2)
                    have hbe20 := hbm1.trans (hbc2.mono hbm1.size)
                    by_cases hC : 0 ≤ va2 ∧ (vb2 < 0 ∨ va2 + c < vb2)
                    · rw [tb_yes hC]
                      have hlt2 := get_lt HDB2.out
                      have HD2 : Hid (rel1 (dk.set nb (va1 + c)) (nb : Nat) (na : Nat) c = (dk.set nb (va1 + c)).set na (va2 + c)) := hide (by rw [HVE2.out, if_pos hC])
                      have hbd2 : Bd ((M + 20) + 20) ((dk.set nb (va1 + c)).set na (va2 + c)) := by rw [← HD2.out]; exact rel1_bd HBD1.out hcc
                      have HBD2 := hide hbd2
                      have HL2 : Hid (((dk.set nb (va1 + c)).set na (va2 + c)).length = N) := hide (by rw [List.length_set]; exact HL1.out)
                      have hp2 := own_put HO20.out hlt2 (va2 + c)
                      have xa := own_int HO20.out HDA2.out
                      have xb := own_int HO20.out HDB2.out
                      have yb := own_free HO20.out na
                      have k0 := HK20.out.cell 0
                      have k1 := HK20.out.cell 1
                      have k2 := HK20.out.cell 2
                      have HP2 := hide hp2
                      have HKn2 := hide (HK20.out.far (p := ⟨o, na, none⟩) (fun h => hoK h.symm) (.int .i64 (va2 + c)))
                      have HGn2 := hide (HG20.out.far (p := ⟨o, na, none⟩) (fun h => hoG h.symm) (.int .i64 (va2 + c)))
                      have hbn2 := hbe20.setCell (p := ⟨o, na, none⟩) (by show w.heap.size ≤ o; omega) (.int .i64 (va2 + c))
                      clear hC hp2 hbd2 HO20 HK20 HG20
                      go_upto_region 17 with fail
                      go_region
                      obtain ⟨wm2, hwm2⟩ : ∃ wm, wm = (wn2.setCell ⟨o, na, none⟩ (.int .i64 (va2 + c))).drew := ⟨_, rfl⟩
                      have HQ2 : Hid (Own ic 3 1 wm2 w.heap.size (.slice (some ⟨o, 0, none⟩) N c5) ((dk.set nb (va1 + c)).set na (va2 + c))) := hide (by rw [hwm2]; exact World.ownsRow.drew HP2.out)
                      have HKm2 : Hid (Blk wm2 wr.heap.size 64 #[.int .i64 na, .int .i64 nb, .int .i64 c]) := hide (by rw [hwm2]; exact HKn2.out)
                      have HGm2 : Hid (Blk wm2 w.heap.size 25 #[.int .i64 (N : Int), .slice (some ⟨b, off, none⟩) g.ls.length cap]) := hide (by rw [hwm2]; exact HGn2.out)
                      have hbm2 : Below w.heap.size w wm2 := by rw [hwm2]; exact hbn2.drew
                      rw [← hwm2]
                      clear hwm2 xa xb yb k0 k1 k2 HP2 HKn2 HGn2 hbn2
                      have HEQ : Hid (((dk.set nb (va1 + c)).set na (va2 + c)) = (g.ls.take (k + 1)).foldl relax d) := hide (by
                        rw [List.take_add_one, HC.out]
                        simp only [Option.toList, List.foldl_append, List.foldl_cons, List.foldl_nil]
                        rw [← HDK.out]
                        unfold relax
                        simp only
                        rw [HE1.out, HD2.out])
                      go_wp2
                      go_roundg (gk - 1)
                      case measure => omega
                      case rel => exact ⟨k + 1, _, by omega, by go_num, hbm2, HEQ, HQ2, HGm2⟩
                    · rw [tb_no hC]
                      have HD2 : Hid (rel1 (dk.set nb (va1 + c)) (nb : Nat) (na : Nat) c = (dk.set nb (va1 + c))) := hide (by rw [HVE2.out, if_neg hC])
                      have HBD2 : Hid (Bd ((M + 20) + 20) (dk.set nb (va1 + c))) := hide (HBD1.out.mono (by omega))
                      clear hC
                      have HEQ : Hid ((dk.set nb (va1 + c)) = (g.ls.take (k + 1)).foldl relax d) := hide (by
                        rw [List.take_add_one, HC.out]
                        simp only [Option.toList, List.foldl_append, List.foldl_cons, List.foldl_nil]
                        rw [← HDK.out]
                        unfold relax
                        simp only
                        rw [HE1.out, HD2.out])
                      go_wp2
                      go_roundg (gk - 1)
                      case measure => omega
                      case rel => exact ⟨k + 1, _, by omega, by go_num, hbe20, HEQ, HO20, HG20⟩
                · rw [tb_no hC]
                  have HD1 : Hid (rel1 dk (na : Nat) (nb : Nat) c = dk) := hide (by rw [HVE1.out, if_neg hC])
                  have HBD1 : Hid (Bd (M + 20) dk) := hide (HBK.out.mono (by omega))
                  clear hC
                  have HE1 : Hid (rel1 dk (na : Nat) (nb : Nat) c = dk) := hide HD1.out
                  have hda := at_nat (d := dk) (i := nb) (by have := HLK.out; omega)
                  have hdb := at_nat (d := dk) (i := na) (by have := HLK.out; omega)
                  obtain ⟨va2, hva2⟩ : ∃ z, z = at' dk (nb : Nat) := ⟨_, rfl⟩
                  obtain ⟨vb2, hvb2⟩ : ∃ z, z = at' dk (na : Nat) := ⟨_, rfl⟩
                  rw [← hva2] at hda
                  rw [← hvb2] at hdb
                  have hbva := HBD1.out (nb : Nat)
                  have hbvb := HBD1.out (na : Nat)
                  rw [← hva2] at hbva
                  rw [← hvb2] at hbvb
                  have HVE2 : Hid (rel1 dk (nb : Nat) (na : Nat) c = if 0 ≤ va2 ∧ (vb2 < 0 ∨ va2 + c < vb2) then dk.set na (va2 + c) else dk) := hide (by unfold rel1; rw [← hva2, ← hvb2, Int.toNat_natCast])
                  have HDA2 := hide hda
                  have HDB2 := hide hdb
                  have xa := own_int HO10.out hda
                  have xb := own_int HO10.out hdb
                  have k0 := HK10.out.cell 0
                  have k1 := HK10.out.cell 1
                  have k2 := HK10.out.cell 2
                  have hwr : IntKind.i64.wrap (va2 + c) = va2 + c := by rw [IntKind.wrap_i64]; omega
                  clear hda hdb hva2 hvb2
                  go_upto_region 16 with fail
                  go_cut [112] (fun s wx => s = .bool (tb (0 ≤ va2 ∧ (vb2 < 0 ∨ va2 + c < vb2))) ∧ Below wn1.heap.size wn1 wx)
                  case first =>
                    have e1 := fun y => wext_cell wn1 y xa
                    have e2 := fun y => wext_cell wn1 y xb
                    have e3 := fun y => wext_cell wn1 y k0
                    have e4 := fun y => wext_cell wn1 y k1
                    have e5 := fun y => wext_cell wn1 y k2
                    by_cases c1 : 0 ≤ va2
                    · by_cases c2 : vb2 < 0
                      · refine region_q (by kernel_rfl) (by kernel_rfl) ?_
                        repeat (go_big_quiet_step ((first | (fail))))
                        refine wpQuiet_nil ?_
                        intro wx hbx
                        go_wp2_with fail
                        go_meet
                        exact ⟨by rw [(show tb (0 ≤ va2 ∧ (vb2 < 0 ∨ va2 + c < vb2)) = true from tb_yes ⟨c1, .inl c2⟩)], hbx⟩
                      · by_cases c3 : va2 + c < vb2
                        · refine region_q (by kernel_rfl) (by kernel_rfl) ?_
                          repeat (go_big_quiet_step ((first | (fail))))
                          refine wpQuiet_nil ?_
                          intro wx hbx
                          go_wp2_with fail
                          go_meet
                          exact ⟨by rw [(show tb (0 ≤ va2 ∧ (vb2 < 0 ∨ va2 + c < vb2)) = true from tb_yes ⟨c1, .inr c3⟩)], hbx⟩
                        · refine region_q (by kernel_rfl) (by kernel_rfl) ?_
                          repeat (go_big_quiet_step ((first | (fail))))
                          refine wpQuiet_nil ?_
                          intro wx hbx
                          go_wp2_with fail
                          go_meet
                          exact ⟨by rw [(show tb (0 ≤ va2 ∧ (vb2 < 0 ∨ va2 + c < vb2)) = false from tb_no fun h => by omega)], hbx⟩
                    · refine region_q (by kernel_rfl) (by kernel_rfl) ?_
                      repeat (go_big_quiet_step ((first | (fail))))
                      refine wpQuiet_nil ?_
                      intro wx hbx
                      go_wp2_with fail
                      go_meet
                      exact ⟨by rw [(show tb (0 ≤ va2 ∧ (vb2 < 0 ∨ va2 + c < vb2)) = false from tb_no fun h => by omega)], hbx⟩
                  case rest =>
                    obtain ⟨rfl, hbc2⟩ := hcut
                    obtain ⟨wn2, hwn2⟩ : ∃ wn, wn = wc := ⟨_, rfl⟩
                    subst hwn2
                    clear xa xb k0 k1 k2
                    have HO20 := hide (HO10.out.below hbc2)
                    have HK20 := hide (HK10.out.up hbc2)
                    have HG20 := hide (HG10.out.up hbc2)
                    have hbe20 := hbe10.trans (hbc2.mono hbe10.size)
                    by_cases hC : 0 ≤ va2 ∧ (vb2 < 0 ∨ va2 + c < vb2)
                    · rw [tb_yes hC]
                      have hlt2 := get_lt HDB2.out
                      have HD2 : Hid (rel1 dk (nb : Nat) (na : Nat) c = dk.set na (va2 + c)) := hide (by rw [HVE2.out, if_pos hC])
                      have hbd2 : Bd ((M + 20) + 20) (dk.set na (va2 + c)) := by rw [← HD2.out]; exact rel1_bd HBD1.out hcc
                      have HBD2 := hide hbd2
                      have HL2 : Hid ((dk.set na (va2 + c)).length = N) := hide (by rw [List.length_set]; exact HLK.out)
                      have hp2 := own_put HO20.out hlt2 (va2 + c)
                      have xa := own_int HO20.out HDA2.out
                      have xb := own_int HO20.out HDB2.out
                      have yb := own_free HO20.out na
                      have k0 := HK20.out.cell 0
                      have k1 := HK20.out.cell 1
                      have k2 := HK20.out.cell 2
                      have HP2 := hide hp2
                      have HKn2 := hide (HK20.out.far (p := ⟨o, na, none⟩) (fun h => hoK h.symm) (.int .i64 (va2 + c)))
                      have HGn2 := hide (HG20.out.far (p := ⟨o, na, none⟩) (fun h => hoG h.symm) (.int .i64 (va2 + c)))
                      have hbn2 := hbe20.setCell (p := ⟨o, na, none⟩) (by show w.heap.size ≤ o; omega) (.int .i64 (va2 + c))
                      clear hC hp2 hbd2 HO20 HK20 HG20
                      go_upto_region 17 with fail
                      go_region
                      obtain ⟨wm2, hwm2⟩ : ∃ wm, wm = (wn2.setCell ⟨o, na, none⟩ (.int .i64 (va2 + c))).drew := ⟨_, rfl⟩
                      have HQ2 : Hid (Own ic 3 1 wm2 w.heap.size (.slice (some ⟨o, 0, none⟩) N c5) (dk.set na (va2 + c))) := hide (by rw [hwm2]; exact World.ownsRow.drew HP2.out)
                      have HKm2 : Hid (Blk wm2 wr.heap.size 64 #[.int .i64 na, .int .i64 nb, .int .i64 c]) := hide (by rw [hwm2]; exact HKn2.out)
                      have HGm2 : Hid (Blk wm2 w.heap.size 25 #[.int .i64 (N : Int), .slice (some ⟨b, off, none⟩) g.ls.length cap]) := hide (by rw [hwm2]; exact HGn2.out)
                      have hbm2 : Below w.heap.size w wm2 := by rw [hwm2]; exact hbn2.drew
                      rw [← hwm2]
                      clear hwm2 xa xb yb k0 k1 k2 HP2 HKn2 HGn2 hbn2
                      have HEQ : Hid ((dk.set na (va2 + c)) = (g.ls.take (k + 1)).foldl relax d) := hide (by
                        rw [List.take_add_one, HC.out]
                        simp only [Option.toList, List.foldl_append, List.foldl_cons, List.foldl_nil]
                        rw [← HDK.out]
                        unfold relax
                        simp only
                        rw [HE1.out, HD2.out])
                      go_wp2
                      go_roundg (gk - 1)
                      case measure => omega
                      case rel => exact ⟨k + 1, _, by omega, by go_num, hbm2, HEQ, HQ2, HGm2⟩
                    · rw [tb_no hC]
                      have HD2 : Hid (rel1 dk (nb : Nat) (na : Nat) c = dk) := hide (by rw [HVE2.out, if_neg hC])
                      have HBD2 : Hid (Bd ((M + 20) + 20) dk) := hide (HBD1.out.mono (by omega))
                      clear hC
                      have HEQ : Hid (dk = (g.ls.take (k + 1)).foldl relax d) := hide (by
                        rw [List.take_add_one, HC.out]
                        simp only [Option.toList, List.foldl_append, List.foldl_cons, List.foldl_nil]
                        rw [← HDK.out]
                        unfold relax
                        simp only
                        rw [HE1.out, HD2.out])
                      go_wp2
                      go_roundg (gk - 1)
                      case measure => omega
                      case rel => exact ⟨k + 1, _, by omega, by go_num, hbe20, HEQ, HO20, HG20⟩
            · have HNX : Hid (dk = iter g.ls (start g.n (nx : Int)) (r + 1)) := hide (by
                rw [HDK.out, List.take_of_length_le (by omega), HD.out]; rfl)
              go_wp2
              go_roundg (gko - 1)
              case measure => omega
              case rel => exact ⟨r + 1, _, by omega, by go_num, hbe, HNX, HO, HGB⟩
        · have HF : Hid (d = distL g (nx : Int)) := hide (by
            rw [HD.out]
            unfold distL
            have := HN.out
            rw [show g.n.toNat = r from by omega])
          go_wp2
          go_ret
          exact ⟨o, c5, rfl, by rw [← HF.out]; exact HO.out, hbe⟩
end Go.Proofs.Ytbhkjeicogjfbaa
