/- The law FnTableExact, walked: it returns true for every code. Conditions: none. -/
import Derived.Test.YtlkchocjldllgaaLawF
namespace Go.Proofs.Ytlkchocjldllgaa
open Go.RowKit

set_option maxRecDepth 100000 in
set_option maxHeartbeats 1600000 in
theorem lawTableExact (v : Value) (bs : List Int) (w : World) (hv : SlR bc 1 w w.heap.size v bs) (hm : bs.length ≤ 9223372036854775807 ∧ ∀ n ∈ bs, 0 ≤ n ∧ n ≤ 255) :
    Calls Try.prog 5 #[v] w fun e w' => e = .returned (.bool true) ∧ Below w.heap.size w w' := by
  by_cases hl : 1048576 < bs.length
  · obtain ⟨A, cap, rfl, hc, hr⟩ := hv
    clear hr hm
    go_enter Try.func5, Try.ntmps5
    go_wp2
    go_ret
    exact ⟨rfl, Below.refl _ _⟩
  have hvv := hv
  obtain ⟨A, cap, rfl, hc, hr⟩ := hvv
  have HM := hide hm
  clear hm hr hc
  go_enter Try.func5, Try.ntmps5
  go_wp2_with fail
  refine (drawFind_any _ bs _ hv HM.out).mono ?_
  rintro e w1 ⟨x, u, t, rfl, ⟨a, rfl, ha0, ha1⟩, hT0, ⟨hl1, hl2⟩, hb1⟩
  have hT1 := hT0 w1 (Kept.refl _ _)
  clear hT0
  have hn : t.routes.length ≤ 1048576 ∧ t.hops.length ≤ 1048576 := by omega
  have hT1' := hT1
  obtain ⟨x1, x2, rfl, hx1, hx2⟩ := hT1'
  obtain ⟨A1, c1, rfl, hc1⟩ := hx1.form
  obtain ⟨A2, c2, rfl, hc2⟩ := hx2.form
  obtain ⟨X, hX⟩ : ∃ X, X = w1.heap.size := ⟨_, rfl⟩
  obtain ⟨w2, hw2⟩ : ∃ w2, w2 = w1.alloc (Obj.cells #[.slice A1 t.routes.length c1, .slice A2 t.hops.length c2] 30) := ⟨_, rfl⟩
  have h12 : Below w1.heap.size w1 w2 := by rw [hw2]; exact below1 _ _
  have HX2 := hide (show Blk w2 X 30 #[.slice A1 t.routes.length c1, .slice A2 t.hops.length c2] from by rw [hw2, hX]; exact Blk.new _ _ _)
  have hb2 := hb1.trans (h12.mono hb1.size)
  have hT2 := hT1.up h12
  clear hx1 hx2 hT1 hb1 h12 HM
  go_wp2_with fail
  rw [← hw2, ← hX]
  clear hw2 hX
  refine (find_any _ t a _ hT2 hn).mono ?_
  rintro e w3 ⟨b, rfl, hF, hb3⟩
  have hT3 := hT2.up hb3
  have HX3 := hide (HX2.out.up hb3)
  have hb03 := hb2.trans (hb3.mono hb2.size)
  have c0 := HX3.out.cell 0
  have c1' := HX3.out.cell 1
  clear hT2 HX2 hb2 hb3
  go_wp2_with fail
  refine (specFind_any _ t a _ hT3 hn).mono ?_
  rintro e w4 ⟨b', rfl, hF', hb4⟩
  obtain rfl := hF.uniq hF'
  clear hF hF' c0 c1'
  have hT4 := hT3.up hb4
  have HX4 := hide (HX3.out.up hb4)
  have hb04 := hb03.trans (hb4.mono hb03.size)
  have c0 := HX4.out.cell 0
  have c1' := HX4.out.cell 1
  clear hT3 HX3 hb03 hb4
  have e0 : (b != b) = false := by simp
  have e1 : (b == b) = true := by simp
  go_wp2_with fail
  refine (specTableValid_any _ t _ hT4 hn).mono ?_
  rintro e w5 ⟨rfl, hb5⟩
  have hT5 := hT4.up hb5
  have HX5 := hide (HX4.out.up hb5)
  have hb05 := hb04.trans (hb5.mono hb04.size)
  clear hT4 HX4 hb04 hb5 c0 c1'
  by_cases hV : TV t
  · rw [tb_yes hV]
    have HV := hide hV
    clear hV
    obtain ⟨wb, hwb⟩ : ∃ wb, wb = w5 := ⟨_, rfl⟩
    subst hwb
    go_wp2
    go_loopg [7] (t.routes.length) (fun g iv wr => ∃ k : Nat, k + g = t.routes.length ∧ iv = .int .i64 k ∧ Below wb.heap.size wb wr)
    case atStart => exact ⟨0, by omega, rfl, Below.refl _ _⟩
    case round =>
      obtain ⟨k, hk, rfl, hbe⟩ := hrel
      have hbw := hb05.trans (hbe.mono hb05.size)
      have c0 := (HX5.out.up hbe).cell 0
      have c1' := (HX5.out.up hbe).cell 1
      have hT6 := hT5.up hbe
      by_cases hlt : k < t.routes.length
      · obtain ⟨_, _, hq, hs1, hs2⟩ := hT6
        cases hq
        obtain ⟨A', cap', hA', _, hr⟩ := hs1
        injection hA' with hA1 hA2 hA3
        subst hA1
        obtain ⟨A'', cap'', hA'', _, hr2⟩ := hs2
        injection hA'' with hA4 hA5 hA6
        subst hA4
        clear hA2 hA3 hA5 hA6
        obtain ⟨g, off, rfl, hb, hcell⟩ := hr (by omega)
        obtain ⟨⟨rp, rb, rh⟩, hck⟩ := get_some hlt
        obtain ⟨g1, g2, g3⟩ := routeAt hcell hck
        simp only at g1 g2 g3
        have hrv := HV.out.rv hck
        have hrp := hrv.2.1
        obtain ⟨hh0, hh1⟩ := hrv.2.2.2
        simp only at hh0 hh1
        obtain ⟨j, rfl⟩ := Int.eq_ofNat_of_zero_le hh0
        obtain ⟨h, hj⟩ := get_some (l := t.hops) (i := j) (by omega)
        have hjl := get_lt hj
        obtain ⟨g', off', rfl, hb', hcell'⟩ := hr2 (by omega)
        have g4 := intAt hcell' hj
        have hne : (h != h) = false := by simp
        go_upto_region 11 with fail
        have e2 := fun y => wext_cell wr y c0
        have e3 := fun y => wext_cell wr y c1'
        have e4 := fun y => wext_cell wr y g1
        have e5 := fun y => wext_cell wr y g2
        have e6 := fun y => wext_cell wr y g3
        have e7 := fun y => wext_cell wr y g4
        by_cases h8 : rb = 8
        · subst h8
          have hhop : ∀ y, Calls Try.prog 30 #[.agg #[.slice (some ⟨g, off, none⟩) t.routes.length c1, .slice (some ⟨g', off', none⟩) t.hops.length c2], .int .i64 rp] (wext wr y) fun e w' => e = .returned (.int .i64 h) ∧ Below (wext wr y).heap.size (wext wr y) w' := fun y =>
            (hop_any _ t rp _ ((hT5.up hbe).up (wext_below wr y)) hn).mono fun e w' ⟨h', he, hp, hbb⟩ => ⟨by rw [he, hop_exact (r := ⟨rp, 8, j⟩) HV.out (List.mem_of_getElem? hck) rfl hp hj], hbb⟩
          have HH := hide hhop
          clear hck hrv hj hhop
          refine region_q (by kernel_rfl) (by kernel_rfl) ?_
          repeat (go_big_quiet_step ((first | (go_at_call 30; exact q_call (HH.out _)))))
          refine wpQuiet_nil ?_
          intro wx hbx
          go_wp2
          go_roundg (gk - 1)
          case measure => omega
          case rel => exact ⟨k + 1, by omega, by go_num, hbe.trans (hbx.mono hbe.size)⟩
        · have h8' : (rb == 8) = false := by simp [h8]
          clear hck hrv hj h8
          refine region_q (by kernel_rfl) (by kernel_rfl) ?_
          repeat (go_big_quiet_step ((first | (fail))))
          refine wpQuiet_nil ?_
          intro wx hbx
          go_wp2
          go_roundg (gk - 1)
          case measure => omega
          case rel => exact ⟨k + 1, by omega, by go_num, hbe.trans (hbx.mono hbe.size)⟩
      · go_wp2
        go_ret
        exact ⟨rfl, hbw⟩
  · rw [tb_no hV]
    clear hV
    go_wp2
    go_ret
    exact ⟨rfl, hb05⟩
end Go.Proofs.Ytlkchocjldllgaa
