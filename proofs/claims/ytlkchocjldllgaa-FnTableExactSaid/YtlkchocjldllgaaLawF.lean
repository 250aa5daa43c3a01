/- The laws FnTableFind, FnTableHop, FnTableExact, walked: each returns true for every code. Conditions: none. -/
import Derived.Test.YtlkchocjldllgaaDrawF
import Derived.Test.YtlkchocjldllgaaMatch
import Derived.Test.YtlkchocjldllgaaTabQ
namespace Go.Proofs.Ytlkchocjldllgaa
open Go.RowKit

theorem drawHop_any (v : Value) (bs : List Int) (w : World) (hv : SlR bc 1 w w.heap.size v bs) (hm : bs.length ≤ 9223372036854775807 ∧ ∀ n ∈ bs, 0 ≤ n ∧ n ≤ 255) :
    Calls Try.prog 33 #[v] w (DrawnT (fun u => ∃ a : Int, u = .int .i64 a ∧ -1 ≤ a ∧ a ≤ 256) w) := by
  have hb0 := below1 w (.cells #[.slice none 0 0, .slice none 0 0] 30)
  have hO0 := Blk.new w 30 #[.slice none 0 0, .slice none 0 0]
  go_enter Try.func33, Try.ntmps33
  go_wp2_with fail
  refine (drawFind_any v bs _ (hv.up hb0) hm).mono ?_
  rintro e w1 ⟨x, u, t, rfl, ⟨a, rfl, ha⟩, hT1, hl, hb1⟩
  have hO1 := hO0.up hb1
  have hb01 := hb0.trans (hb1.mono hb0.size)
  obtain ⟨x1, x2, rfl, hx1, hx2⟩ := hT1 w1 (Kept.refl _ _)
  obtain ⟨A1, c1, rfl, _⟩ := hx1.form
  obtain ⟨A2, c2, rfl, _⟩ := hx2.form
  have o0 := hO1.cell 0
  have o1 := hO1.cell 1
  have y0 := hO1.free 0
  have y1 := hO1.free 1
  have h01 : w.heap.size < (w.alloc (Obj.cells #[.slice none 0 0, .slice none 0 0] 30)).heap.size := hO0.lt
  have hT4 := fun W' (hk : Kept w.heap.size ((w1.setCell ⟨w.heap.size, 0, none⟩ (.slice A1 t.routes.length c1)).setCell ⟨w.heap.size, 1, none⟩ (.slice A2 t.hops.length c2)) W') => hT1 W' (((Kept.of_set (p := ⟨w.heap.size, 0, none⟩) h01 (.slice A1 t.routes.length c1)).trans (Kept.of_set (p := ⟨w.heap.size, 1, none⟩) h01 (.slice A2 t.hops.length c2))).trans (Kept.mono hk (by omega)))
  clear hx1 hx2 hO0 hO1 hb1 hT1
  go_wp2_with fail
  refine bodyPost_ret (v := .tuple #[.agg #[.slice A1 t.routes.length c1, .slice A2 t.hops.length c2], .int .i64 a]) (by simp [results, Try.results33, go_sem, o0, o1]) rfl ⟨_, _, t, rfl, ⟨a, rfl, ha⟩, hT4, hl, (hb01.setCell (Nat.le_refl _) _).setCell (Nat.le_refl _) _⟩
set_option maxRecDepth 100000 in
set_option maxHeartbeats 1600000 in
theorem lawTableFind (v : Value) (bs : List Int) (w : World) (hv : SlR bc 1 w w.heap.size v bs) (hm : bs.length ≤ 9223372036854775807 ∧ ∀ n ∈ bs, 0 ≤ n ∧ n ≤ 255) :
    Calls Try.prog 6 #[v] w fun e w' => e = .returned (.bool true) ∧ Below w.heap.size w w' := by
  by_cases hl : 1048576 < bs.length
  · obtain ⟨A, cap, rfl, hc, hr⟩ := hv
    clear hr hm
    go_enter Try.func6, Try.ntmps6
    go_wp2
    go_ret
    exact ⟨rfl, Below.refl _ _⟩
  have hvv := hv
  obtain ⟨A, cap, rfl, hc, hr⟩ := hvv
  have HM := hide hm
  clear hm hr hc
  go_enter Try.func6, Try.ntmps6
  go_wp2_with fail
  refine (drawFind_any _ bs _ hv HM.out).mono ?_
  rintro e w1 ⟨x, u, t, rfl, ⟨a, rfl, ha0, ha1⟩, hT0, ⟨hl1, hl2⟩, hb1⟩
  have hT1 := hT0 w1 (Kept.refl _ _)
  clear hT0
  have hn : t.routes.length ≤ 1048576 ∧ t.hops.length ≤ 1048576 := by omega
  have hT1' := hT1
  obtain ⟨x1, x2, rfl, hx1, hx2⟩ := hT1'
  obtain ⟨A1, c1, rfl, hc1⟩ := hx1.form
  obtain ⟨A2, c2, rfl, hc2⟩ := hx2.form
  obtain ⟨X, hX⟩ : ∃ X, X = w1.heap.size := ⟨_, rfl⟩
  obtain ⟨w2, hw2⟩ : ∃ w2, w2 = w1.alloc (Obj.cells #[.slice A1 t.routes.length c1, .slice A2 t.hops.length c2] 30) := ⟨_, rfl⟩
  have h12 : Below w1.heap.size w1 w2 := by rw [hw2]; exact below1 _ _
  have HX2 := hide (show Blk w2 X 30 #[.slice A1 t.routes.length c1, .slice A2 t.hops.length c2] from by rw [hw2, hX]; exact Blk.new _ _ _)
  have hb2 := hb1.trans (h12.mono hb1.size)
  have hT2 := hT1.up h12
  clear hx1 hx2 hT1 hb1 h12 HM
  go_wp2_with fail
  rw [← hw2, ← hX]
  clear hw2 hX
  refine (find_any _ t a _ hT2 hn).mono ?_
  rintro e w3 ⟨b, rfl, hF, hb3⟩
  have hT3 := hT2.up hb3
  have HX3 := hide (HX2.out.up hb3)
  have hb03 := hb2.trans (hb3.mono hb2.size)
  have c0 := HX3.out.cell 0
  have c1' := HX3.out.cell 1
  clear hT2 HX2 hb2 hb3
  go_wp2_with fail
  refine (specFind_any _ t a _ hT3 hn).mono ?_
  rintro e w4 ⟨b', rfl, hF', hb4⟩
  obtain rfl := hF.uniq hF'
  have HF := hide hF
  clear hF hF' c0 c1'
  have hT4 := hT3.up hb4
  have HX4 := hide (HX3.out.up hb4)
  have hb04 := hb03.trans (hb4.mono hb03.size)
  have c0 := HX4.out.cell 0
  have c1' := HX4.out.cell 1
  clear hT3 HX3 hb03 hb4
  have e0 : (b != b) = false := by simp
  have e1 : (b == b) = true := by simp
  go_wp2_with fail
  refine (specTableValid_any _ t _ hT4 hn).mono ?_
  rintro e w5 ⟨rfl, hb5⟩
  have hT5 := hT4.up hb5
  have HX5 := hide (HX4.out.up hb5)
  have hb05 := hb04.trans (hb5.mono hb04.size)
  have c0 := HX5.out.cell 0
  clear hT4 HX4 hb04 hb5
  by_cases hV : TV t
  · rw [tb_yes hV]
    have HV := hide hV
    clear hV
    by_cases h0 : a < 0
    · go_wp2
      go_ret
      exact ⟨rfl, hb05⟩
    by_cases h1 : 255 < a
    · go_wp2
      go_ret
      exact ⟨rfl, hb05⟩
    have ha : 0 ≤ a ∧ a ≤ 255 := by omega
    have hfd : Fd t a t.routes.length b := by
      rcases HF.out with ⟨_, h⟩ | ⟨h, _⟩
      · exact h
      · exact absurd ⟨HV.out, ha⟩ h
    have HFD := hide hfd
    clear hfd HF
    have hbm : -1 ≤ b ∧ b < t.routes.length := by
      rcases HFD.out with ⟨h, _⟩ | ⟨m, q, h, h', _⟩ <;> omega
    obtain ⟨hbm0, hbm1⟩ := hbm
    obtain ⟨wb, hwb⟩ : ∃ wb, wb = w5 := ⟨_, rfl⟩
    subst hwb
    clear c0
    go_wp2
    go_loopg [7] (t.routes.length) (fun g iv wr => ∃ k : Nat, k + g = t.routes.length ∧ iv = .int .i64 k ∧ Below wb.heap.size wb wr)
    case atStart => exact ⟨0, by omega, rfl, Below.refl _ _⟩
    case round =>
      obtain ⟨k, hk, rfl, hbe⟩ := hrel
      have hbw := hb05.trans (hbe.mono hb05.size)
      have c0 := (HX5.out.up hbe).cell 0
      have hT6 := (hT5.up hbe).slr1 rfl
      obtain ⟨A', cap', hA', _, hr⟩ := hT6
      injection hA' with hA1 hA2 hA3
      subst hA1
      clear hA2 hA3
      by_cases hlt : k < t.routes.length
      · obtain ⟨g, off, rfl, hb, hcell⟩ := hr (by omega)
        obtain ⟨r, hck⟩ := get_some hlt
        obtain ⟨g1, g2, g3⟩ := routeAt hcell hck
        have hrv := HV.out.rv hck
        have hmt := fun W => matches_any r a W hrv.1 hrv.2.1 hrv.2.2.1 ha
        have HC := hide hck
        clear hck hrv
        go_upto_region 11 with fail
        have e2 := fun y => wext_cell wr y c0
        have e3 := fun y => wext_cell wr y g1
        have e4 := fun y => wext_cell wr y g2
        have e5 := fun y => wext_cell wr y g3
        by_cases hm : Mt r a
        · rw [tb_yes hm] at hmt
          have HMT := hide hmt
          obtain ⟨m, q, hbq, hml, hq, hle⟩ : ∃ (m : Nat) (q : Rt), b = m ∧ m < t.routes.length ∧ t.routes[m]? = some q ∧ ¬ q.bits < r.bits := by
            rcases HFD.out with ⟨_, h⟩ | ⟨m, q, h1, h2, h3, _, h5⟩
            · exact absurd hm (h k r hlt HC.out)
            · exact ⟨m, q, h1, h2, h3, by rcases h5 k r hlt HC.out hm with h | ⟨h, _⟩ <;> omega⟩
          subst hbq
          have hm0 : ¬ ((m : Int) < 0) := by omega
          obtain ⟨q1, q2, q3⟩ := routeAt hcell hq
          have e6 := fun y => wext_cell wr y q2
          clear hmt hm hq
          refine region_q (by kernel_rfl) (by kernel_rfl) ?_
          repeat (go_big_quiet_step ((first | (go_at_call 31; exact q_call (HMT.out _)))))
          refine wpQuiet_nil ?_
          intro wx hbx
          go_wp2
          go_roundg (gk - 1)
          case measure => omega
          case rel => exact ⟨k + 1, by omega, by go_num, hbe.trans (hbx.mono hbe.size)⟩
        · rw [tb_no hm] at hmt
          have HMT := hide hmt
          clear hmt hm
          refine region_q (by kernel_rfl) (by kernel_rfl) ?_
          repeat (go_big_quiet_step ((first | (go_at_call 31; exact q_call (HMT.out _)))))
          refine wpQuiet_nil ?_
          intro wx hbx
          go_wp2
          go_roundg (gk - 1)
          case measure => omega
          case rel => exact ⟨k + 1, by omega, by go_num, hbe.trans (hbx.mono hbe.size)⟩
      · by_cases hb0 : b < 0
        · go_wp2
          go_ret
          exact ⟨rfl, hbw⟩
        · obtain ⟨m, q, hbq, hml, hq, hmq⟩ : ∃ (m : Nat) (q : Rt), b = m ∧ m < t.routes.length ∧ t.routes[m]? = some q ∧ Mt q a := by
            rcases HFD.out with ⟨h, _⟩ | ⟨m, q, h1, h2, h3, h4, _⟩
            · omega
            · exact ⟨m, q, h1, h2, h3, h4⟩
          subst hbq
          obtain ⟨g, off, rfl, hb, hcell⟩ := hr (by omega)
          obtain ⟨q1, q2, q3⟩ := routeAt hcell hq
          have hrv := HV.out.rv hq
          have hmt := fun W => matches_any q a W hrv.1 hrv.2.1 hrv.2.2.1 ha
          rw [tb_yes hmq] at hmt
          have HMT := hide hmt
          clear hmt hrv hmq hq
          go_wp2_with fail
          refine (HMT.out _).mono ?_
          rintro e w6 ⟨rfl, hb6⟩
          go_wp2
          go_ret
          exact ⟨rfl, hbw.trans (hb6.mono hbw.size)⟩
  · rw [tb_no hV]
    clear hV
    go_wp2
    go_ret
    exact ⟨rfl, hb05⟩
set_option maxRecDepth 100000 in
set_option maxHeartbeats 1600000 in
theorem lawTableHop (v : Value) (bs : List Int) (w : World) (hv : SlR bc 1 w w.heap.size v bs) (hm : bs.length ≤ 9223372036854775807 ∧ ∀ n ∈ bs, 0 ≤ n ∧ n ≤ 255) :
    Calls Try.prog 8 #[v] w fun e w' => e = .returned (.bool true) ∧ Below w.heap.size w w' := by
  by_cases hl : 1048576 < bs.length
  · obtain ⟨A, cap, rfl, hc, hr⟩ := hv
    clear hr hm
    go_enter Try.func8, Try.ntmps8
    go_wp2
    go_ret
    exact ⟨rfl, Below.refl _ _⟩
  have hvv := hv
  obtain ⟨A, cap, rfl, hc, hr⟩ := hvv
  have HM := hide hm
  clear hm hr hc
  go_enter Try.func8, Try.ntmps8
  go_wp2_with fail
  refine (drawHop_any _ bs _ hv HM.out).mono ?_
  rintro e w1 ⟨x, u, t, rfl, ⟨a, rfl, ha0, ha1⟩, hT0, ⟨hl1, hl2⟩, hb1⟩
  have hT1 := hT0 w1 (Kept.refl _ _)
  clear hT0
  have hn : t.routes.length ≤ 1048576 ∧ t.hops.length ≤ 1048576 := by omega
  have hT1' := hT1
  obtain ⟨x1, x2, rfl, hx1, hx2⟩ := hT1'
  obtain ⟨A1, c1, rfl, hc1⟩ := hx1.form
  obtain ⟨A2, c2, rfl, hc2⟩ := hx2.form
  obtain ⟨X, hX⟩ : ∃ X, X = w1.heap.size := ⟨_, rfl⟩
  obtain ⟨w2, hw2⟩ : ∃ w2, w2 = w1.alloc (Obj.cells #[.slice A1 t.routes.length c1, .slice A2 t.hops.length c2] 30) := ⟨_, rfl⟩
  have h12 : Below w1.heap.size w1 w2 := by rw [hw2]; exact below1 _ _
  have HX2 := hide (show Blk w2 X 30 #[.slice A1 t.routes.length c1, .slice A2 t.hops.length c2] from by rw [hw2, hX]; exact Blk.new _ _ _)
  have hb2 := hb1.trans (h12.mono hb1.size)
  have hT2 := hT1.up h12
  clear hx1 hx2 hT1 hb1 h12 HM
  go_wp2_with fail
  rw [← hw2, ← hX]
  clear hw2 hX
  refine (hop_any _ t a _ hT2 hn).mono ?_
  rintro e w3 ⟨h, rfl, hF, hb3⟩
  have hT3 := hT2.up hb3
  have HX3 := hide (HX2.out.up hb3)
  have hb03 := hb2.trans (hb3.mono hb2.size)
  have c0 := HX3.out.cell 0
  have c1' := HX3.out.cell 1
  clear hT2 HX2 hb2 hb3
  go_wp2_with fail
  refine (specHop_any _ t a _ hT3 hn).mono ?_
  rintro e w4 ⟨h', rfl, hF', hb4⟩
  obtain rfl := hF.uniq hF'
  have HF := hide hF
  clear hF hF' c0 c1'
  have hT4 := hT3.up hb4
  have HX4 := hide (HX3.out.up hb4)
  have hb04 := hb03.trans (hb4.mono hb03.size)
  have c0 := HX4.out.cell 0
  have c1' := HX4.out.cell 1
  clear hT3 HX3 hb03 hb4
  have e0 : (h != h) = false := by simp
  go_wp2_with fail
  refine (find_any _ t a _ hT4 hn).mono ?_
  rintro e w5 ⟨b, rfl, hFb, hb5⟩
  have hT5 := hT4.up hb5
  have HX5 := hide (HX4.out.up hb5)
  have hb05 := hb04.trans (hb5.mono hb04.size)
  clear hT4 HX4 hb04 hb5 c0 c1'
  have hcase : (b < 0 ∧ h = -1) ∨ (∃ r, 0 ≤ b ∧ t.routes[b.toNat]? = some r ∧ t.hops[r.hop.toNat]? = some h) := by
    obtain ⟨b', h1, h2⟩ := HF.out
    obtain rfl := hFb.uniq h1
    exact h2
  by_cases hb0 : b < 0
  · have hh : h = -1 := by
      rcases hcase with ⟨_, h1⟩ | ⟨r, h1, _⟩
      · exact h1
      · omega
    have e1 : (h == -1) = true := by simp [hh]
    clear hh hcase
    go_wp2
    go_ret
    exact ⟨rfl, hb05⟩
  · rcases hcase with ⟨h1, _⟩ | ⟨r, h1, hr, hh⟩
    · exact absurd h1 hb0
    · obtain ⟨m, rfl⟩ := Int.eq_ofNat_of_zero_le h1
      rw [Int.toNat_natCast] at hr
      have hml := get_lt hr
      have hV : TV t := by
        rcases hFb with ⟨⟨h, _⟩, _⟩ | ⟨_, h⟩
        · exact h
        · omega
      have hrv := (hV.rv hr).2.2.2
      obtain ⟨j, hj⟩ := Int.eq_ofNat_of_zero_le hrv.1
      rw [hj, Int.toNat_natCast] at hh
      have hjl := get_lt hh
      obtain ⟨_, _, hq, hs1, hs2⟩ := hT5
      cases hq
      obtain ⟨A', cap', hA', _, hr1⟩ := hs1
      injection hA' with hA1 hA2 hA3
      subst hA1
      obtain ⟨A'', cap'', hA'', _, hr2⟩ := hs2
      injection hA'' with hA4 hA5 hA6
      subst hA4
      clear hA2 hA3 hA5 hA6
      obtain ⟨g, off, rfl, hb, hcell⟩ := hr1 (by omega)
      obtain ⟨g', off', rfl, hb', hcell'⟩ := hr2 (by omega)
      obtain ⟨q1, q2, q3⟩ := routeAt hcell hr
      rw [hj] at q3
      have q4 := intAt hcell' hh
      have c0 := HX5.out.cell 0
      have c1' := HX5.out.cell 1
      have e1 : (h == h) = true := by simp
      clear hj hr hh hFb hV hrv HF
      go_upto_region 11 with fail
      have d0 := fun y => wext_cell w5 y c0
      have d1 := fun y => wext_cell w5 y c1'
      have d2 := fun y => wext_cell w5 y q3
      have d3 := fun y => wext_cell w5 y q4
      refine region_q (by kernel_rfl) (by kernel_rfl) ?_
      repeat (go_big_quiet_step ((first | (fail))))
      refine wpQuiet_nil ?_
      intro wx hbx
      go_wp2
      go_ret
      exact ⟨rfl, hb05.trans (hbx.mono hb05.size)⟩
end Go.Proofs.Ytlkchocjldllgaa
