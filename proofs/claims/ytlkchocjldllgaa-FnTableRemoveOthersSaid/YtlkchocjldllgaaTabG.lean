/- TableFind of the reference, TableHop of both. Conditions: at most 1048576 routes and hops. -/
import Derived.Test.YtlkchocjldllgaaTabF
import Derived.Test.YtlkchocjldllgaaTabS
namespace Go.Proofs.Ytlkchocjldllgaa
open Go.RowKit

set_option maxHeartbeats 1600000 in
theorem l23Find_any (v : Value) (t : Tab) (a : Int) (w : World) (hv : TbR w w.heap.size v t) (hn : t.routes.length ≤ 1048576 ∧ t.hops.length ≤ 1048576) (hV : TV t) (ha : 0 ≤ a ∧ a ≤ 255) :
    Calls Try.prog 59 #[v, .int .i64 a] w fun e w' => ∃ b, e = .returned (.int .i64 b) ∧ Fd t a t.routes.length b ∧ Below w.heap.size w w' := by
  have hn1 := hn.1
  have ha0 := ha.1
  obtain ⟨v1, v2, rfl, ⟨A1, cap1, rfl, hc1, hr1⟩, ⟨A2, cap2, rfl, hc2, hr2⟩⟩ := hv
  have HV := hide hV
  have HA := hide ha
  clear hV ha
  go_enter Try.func59, Try.ntmps59
  go_upto_region 1 with fail
  obtain ⟨wb, hwb⟩ : ∃ wb, wb = w.alloc (.cells #[.slice A1 t.routes.length cap1, .slice A2 t.hops.length cap2] 30) := ⟨_, rfl⟩
  have hb01 : Below w.heap.size w wb := by rw [hwb]; exact below1 _ _
  have hB : Blk wb w.heap.size 30 #[.slice A1 t.routes.length cap1, .slice A2 t.hops.length cap2] := by rw [hwb]; exact Blk.new _ _ _
  rw [← hwb]
  clear hwb
  have HB1 := hide hB
  clear hB
  go_wp2
  go_loopg [5, 6] (t.routes.length) (fun g bv iv wr => ∃ (k : Nat) (b : Int), k + g = t.routes.length ∧ iv = .int .i64 k ∧ bv = .int .i64 b ∧ -1 ≤ b ∧ b < k ∧ Hid (Fd t a k b) ∧ Below wb.heap.size wb wr)
  case atStart => exact ⟨0, -1, by omega, rfl, rfl, by omega, by omega, hide (Fd.zero t a), Below.refl _ _⟩
  case round =>
    obtain ⟨k, b, hk, rfl, rfl, hb1, hb2, HF, hbe⟩ := hrel
    have hBr := HB1.out.up hbe
    have c0 := hBr.cell 0
    have c1 := hBr.cell 1
    clear hBr
    by_cases hlt : k < t.routes.length
    · obtain ⟨g, off, rfl, hb, hcell⟩ := hr1 (by omega)
      obtain ⟨r, hck⟩ := get_some hlt
      have hbwe := hb01.trans (hbe.mono hb01.size)
      obtain ⟨g1, g2, g3⟩ := routeAt (hcell.keep (w' := wr) fun p hp => hbwe.cell (by omega)) hck
      have hrv := HV.out.rv hck
      have hrp := hrv.2.1.1
      have hlp := low_pos r.bits
      have HRV := hide hrv
      have HC := hide hck
      clear hck hrv
      go_wp2_with fail
      refine (low_any r.bits _ HRV.out.1).mono ?_
      rintro e w2 ⟨rfl, rfl⟩
      obtain ⟨lo, hlo⟩ : ∃ lo, lo = low r.bits := ⟨_, rfl⟩
      rw [← hlo] at hlp ⊢
      have HLO := hide hlo
      clear hlo
      obtain ⟨wr, hwr⟩ : ∃ wr, wr = w2 := ⟨_, rfl⟩
      subst hwr
      go_upto_region 6 with fail
      have dv : ∀ x : Int, 0 ≤ x → x ≤ 255 → wrap64 (x.tdiv lo) = x / lo := fun x h0 h1 => by
        rw [Int.tdiv_eq_ediv_of_nonneg h0]
        have h2 := Int.ediv_le_self lo h0
        have h3 := Int.ediv_nonneg h0 (show 0 ≤ lo by omega)
        unfold wrap64; omega
      have dv1 := dv a HA.out.1 HA.out.2
      have dv2 := dv r.pre HRV.out.2.1.1 HRV.out.2.1.2
      clear dv
      have HMQ : Hid (a / lo = r.pre / lo ↔ Mt r a) := hide (by rw [HLO.out]; exact Iff.rfl)
      go_cut [52] (fun s wx => s = .bool (tb (Mt r a ∧ FdBetter t b r)) ∧ Below wb.heap.size wb wx)
      case first =>
        have e0 := fun x => wext_cell wr x c0
        have e1 := fun x => wext_cell wr x c1
        have e2 := fun x => wext_cell wr x g1
        have e3 := fun x => wext_cell wr x g2
        have e4 := fun x => wext_cell wr x g3
        by_cases hm : a / lo = r.pre / lo
        · have hmb : (a / lo == r.pre / lo) = true := by simp [hm]
          have HM := hide (HMQ.out.1 hm)
          clear hm
          by_cases h0 : b < 0
          · refine region_q (by kernel_rfl) (by kernel_rfl) ?_
            repeat (go_big_quiet_step ((first | (fail))))
            refine wpQuiet_nil ?_
            intro wx hbx
            go_wp2_with fail
            go_meet
            exact ⟨by rw [tb_yes ⟨HM.out, .inl h0⟩], hbe.trans (hbx.mono hbe.size)⟩
          · obtain ⟨m, rfl⟩ := Int.eq_ofNat_of_zero_le (show 0 ≤ b by omega)
            obtain ⟨q, hq⟩ := get_some (l := t.routes) (i := m) (by omega)
            obtain ⟨q1, q2, q3⟩ := routeAt (hcell.keep (w' := wr) fun p hp => hbwe.cell (by omega)) hq
            have e5 := fun x => wext_cell wr x q2
            have HQ := hide hq
            clear hq
            have hml : m < t.routes.length := by omega
            by_cases h5 : q.bits < r.bits
            · refine region_q (by kernel_rfl) (by kernel_rfl) ?_
              repeat (go_big_quiet_step ((first | (fail))))
              refine wpQuiet_nil ?_
              intro wx hbx
              go_wp2_with fail
              go_meet
              exact ⟨by rw [tb_yes ⟨HM.out, .inr ⟨q, HQ.out, h5⟩⟩], hbe.trans (hbx.mono hbe.size)⟩
            · refine region_q (by kernel_rfl) (by kernel_rfl) ?_
              repeat (go_big_quiet_step ((first | (fail))))
              refine wpQuiet_nil ?_
              intro wx hbx
              go_wp2_with fail
              go_meet
              refine ⟨?_, hbe.trans (hbx.mono hbe.size)⟩
              rw [tb_no]
              rintro ⟨_, h | ⟨q', h, h'⟩⟩
              · omega
              · rw [show ((m : Int).toNat) = m from rfl, HQ.out] at h
                cases h
                omega
        · have hmb : (a / lo == r.pre / lo) = false := by simp [hm]
          have HM := hide (fun h => hm (HMQ.out.2 h))
          clear hm
          refine region_q (by kernel_rfl) (by kernel_rfl) ?_
          repeat (go_big_quiet_step ((first | (fail))))
          refine wpQuiet_nil ?_
          intro wx hbx
          go_wp2_with fail
          go_meet
          exact ⟨by rw [tb_no fun h => HM.out h.1], hbe.trans (hbx.mono hbe.size)⟩
      case rest =>
        obtain ⟨rfl, hbc⟩ := hcut
        by_cases hx : Mt r a ∧ FdBetter t b r
        · rw [tb_yes hx]
          have HX := hide hx
          clear hx
          go_wp2
          go_roundg (gk - 1)
          case measure => omega
          case rel => exact ⟨k + 1, k, by omega, by go_num, rfl, by omega, by omega, hide (HF.out.take HC.out HX.out.1 HX.out.2), hbc⟩
        · rw [tb_no hx]
          have HX := hide hx
          clear hx
          go_wp2
          go_roundg (gk - 1)
          case measure => omega
          case rel => exact ⟨k + 1, b, by omega, by go_num, rfl, by omega, by omega, hide (HF.out.keep HC.out HX.out), hbc⟩
    · have hkk : k = t.routes.length := by omega
      have HF' : Hid (Fd t a t.routes.length b) := hide (hkk ▸ HF.out)
      clear HF
      go_wp2
      go_ret
      exact ⟨b, rfl, HF'.out, hb01.trans (hbe.mono hb01.size)⟩
set_option maxHeartbeats 1600000 in
theorem specFind_any (v : Value) (t : Tab) (a : Int) (w : World) (hv : TbR w w.heap.size v t) (hn : t.routes.length ≤ 1048576 ∧ t.hops.length ≤ 1048576) :
    Calls Try.prog 27 #[v, .int .i64 a] w fun e w' => ∃ b, e = .returned (.int .i64 b) ∧ FdR t a b ∧ Below w.heap.size w w' := by
  have hvv := hv
  obtain ⟨v1, v2, rfl, ⟨A1, cap1, rfl, hc1, hr1⟩, ⟨A2, cap2, rfl, hc2, hr2⟩⟩ := hv
  go_enter Try.func27, Try.ntmps27
  go_upto_region 1 with fail
  obtain ⟨wb, hwb⟩ : ∃ wb, wb = w.alloc (.cells #[.slice A1 t.routes.length cap1, .slice A2 t.hops.length cap2] 30) := ⟨_, rfl⟩
  have hbw : Below w.heap.size w wb := by rw [hwb]; exact below1 _ _
  have hB : Blk wb w.heap.size 30 #[.slice A1 t.routes.length cap1, .slice A2 t.hops.length cap2] := by rw [hwb]; exact Blk.new _ _ _
  rw [← hwb]
  clear hwb
  have HB := hide hB
  have b0 := hB.cell 0
  have b1 := hB.cell 1
  clear hB
  go_wp2_with fail
  refine (specTableValid_any _ t _ (hvv.up hbw) hn).mono ?_
  rintro e w1 ⟨rfl, hb1⟩
  have hb01 := hbw.trans (hb1.mono hbw.size)
  have HB1 := hide (HB.out.up hb1)
  clear b0 b1 HB
  have b0 := HB1.out.cell 0
  have b1 := HB1.out.cell 1
  have hv1 := (hvv.up hbw).up hb1
  clear hb1 hbw
  by_cases hV : TV t
  · by_cases ha : 0 ≤ a ∧ a ≤ 255
    · rw [tb_yes hV]
      have HV := hide hV
      have HA := hide ha
      clear hV
      go_wp2_with (go_at_call 49; refine (l6In_t _ _ _ _ ?_).mono ?_; exact ha; rintro e w2 ⟨rfl, rfl⟩)
      refine (l23Find_any _ t a _ hv1 hn HV.out HA.out).mono ?_
      rintro e w3 ⟨b, rfl, hF, hb3⟩
      have HF := hide hF
      clear hF
      go_wp2
      go_ret
      exact ⟨b, rfl, .inl ⟨⟨HV.out, HA.out⟩, HF.out⟩, hb01.trans (hb3.mono hb01.size)⟩
    · rw [tb_yes hV]
      have HA := hide ha
      clear hV
      go_wp2_with (go_at_call 49; refine (l6In_f _ _ _ _ ?_).mono ?_; exact ha; rintro e w2 ⟨rfl, rfl⟩)
      go_ret
      exact ⟨-1, rfl, .inr ⟨fun h => HA.out h.2, rfl⟩, hb01⟩
  · rw [tb_no hV]
    have HV := hide hV
    clear hV
    go_wp2
    go_ret
    exact ⟨-1, rfl, .inr ⟨fun h => HV.out h.1, rfl⟩, hb01⟩

/-- What TableHop answers. -/
def HpR (t : Tab) (a h : Int) : Prop := ∃ b, FdR t a b ∧ ((b < 0 ∧ h = -1) ∨ (∃ r, 0 ≤ b ∧ t.routes[b.toNat]? = some r ∧ t.hops[r.hop.toNat]? = some h))
theorem HpR.uniq {t : Tab} {a h h' : Int} (x : HpR t a h) (y : HpR t a h') : h = h' := by
  obtain ⟨b, h1, h2⟩ := x
  obtain ⟨b', h1', h2'⟩ := y
  obtain rfl := h1.uniq h1'
  rcases h2 with ⟨h3, h4⟩ | ⟨r, h3, h4, h5⟩
  · rcases h2' with ⟨_, h6⟩ | ⟨_, h6, _⟩
    · rw [h4, h6]
    · omega
  · rcases h2' with ⟨h6, _⟩ | ⟨r', h6, h7, h8⟩
    · omega
    · rw [h4] at h7
      cases h7
      rw [h5] at h8
      exact Option.some.inj h8
set_option maxHeartbeats 1600000 in
theorem hop_any (v : Value) (t : Tab) (a : Int) (w : World) (hv : TbR w w.heap.size v t) (hn : t.routes.length ≤ 1048576 ∧ t.hops.length ≤ 1048576) :
    Calls Try.prog 30 #[v, .int .i64 a] w fun e w' => ∃ h, e = .returned (.int .i64 h) ∧ HpR t a h ∧ Below w.heap.size w w' := by
  have hvv := hv
  obtain ⟨v1, v2, rfl, ⟨A1, cap1, rfl, hc1, hr1⟩, ⟨A2, cap2, rfl, hc2, hr2⟩⟩ := hv
  go_enter Try.func30, Try.ntmps30
  go_upto_region 1 with fail
  obtain ⟨wb, hwb⟩ : ∃ wb, wb = w.alloc (.cells #[.slice A1 t.routes.length cap1, .slice A2 t.hops.length cap2] 30) := ⟨_, rfl⟩
  have hbw : Below w.heap.size w wb := by rw [hwb]; exact below1 _ _
  have hB : Blk wb w.heap.size 30 #[.slice A1 t.routes.length cap1, .slice A2 t.hops.length cap2] := by rw [hwb]; exact Blk.new _ _ _
  rw [← hwb]
  clear hwb
  have HB := hide hB
  have b0 := hB.cell 0
  have b1 := hB.cell 1
  clear hB
  go_wp2_with fail
  refine (find_any _ t a _ (hvv.up hbw) hn).mono ?_
  rintro e w1 ⟨b, rfl, hF, hb1⟩
  have hb01 := hbw.trans (hb1.mono hbw.size)
  have HB1 := hide (HB.out.up hb1)
  clear b0 b1 HB hb1 hbw
  have b0 := HB1.out.cell 0
  have b1 := HB1.out.cell 1
  by_cases h0 : b < 0
  · have HF := hide hF
    clear hF
    go_wp2
    go_ret
    exact ⟨-1, rfl, ⟨b, HF.out, .inl ⟨h0, rfl⟩⟩, hb01⟩
  · have hF' := hF
    rcases hF' with ⟨⟨hV, ha⟩, h1 | ⟨m, q, rfl, hm, hq, _⟩⟩ | ⟨_, h1⟩
    · omega
    · have hrv := hV.rv hq
      obtain ⟨hp0, hp1⟩ := hrv.2.2.2
      obtain ⟨x, y, z⟩ := q
      simp only at hp0 hp1
      obtain ⟨j, rfl⟩ := Int.eq_ofNat_of_zero_le hp0
      obtain ⟨n, hh⟩ := get_some (l := t.hops) (i := j) (by omega)
      have hjl : j < t.hops.length := by omega
      obtain ⟨g, off, rfl, hb, hcell⟩ := hr1 (by omega)
      obtain ⟨g', off', rfl, hb', hcell'⟩ := hr2 (by omega)
      obtain ⟨q1, q2, q3⟩ := routeAt (hcell.keep (w' := w1) fun p hp => hb01.cell (by omega)) hq
      have q4 := intAt (hcell'.keep (w' := w1) fun p hp => hb01.cell (by omega)) hh
      simp only at q3
      have HR : Hid (HpR t a n) := hide ⟨m, hF, .inr ⟨_, by omega, hq, hh⟩⟩
      clear hrv hF hq hh hV ha
      go_upto_region 4 with fail
      have e0 := fun x => wext_cell w1 x b0
      have e1 := fun x => wext_cell w1 x b1
      have e2 := fun x => wext_cell w1 x q3
      have e3 := fun x => wext_cell w1 x q4
      refine region_q (by kernel_rfl) (by kernel_rfl) ?_
      repeat (go_big_quiet_step ((first | (fail))))
      refine wpQuiet_nil ?_
      intro wx hbx
      go_wp2
      go_ret
      exact ⟨n, rfl, HR.out, hb01.trans (hbx.mono hb01.size)⟩
    · omega
set_option maxHeartbeats 1600000 in
theorem specHop_any (v : Value) (t : Tab) (a : Int) (w : World) (hv : TbR w w.heap.size v t) (hn : t.routes.length ≤ 1048576 ∧ t.hops.length ≤ 1048576) :
    Calls Try.prog 32 #[v, .int .i64 a] w fun e w' => ∃ h, e = .returned (.int .i64 h) ∧ HpR t a h ∧ Below w.heap.size w w' := by
  have hvv := hv
  obtain ⟨v1, v2, rfl, ⟨A1, cap1, rfl, hc1, hr1⟩, ⟨A2, cap2, rfl, hc2, hr2⟩⟩ := hv
  go_enter Try.func32, Try.ntmps32
  go_upto_region 1 with fail
  obtain ⟨wb, hwb⟩ : ∃ wb, wb = w.alloc (.cells #[.slice A1 t.routes.length cap1, .slice A2 t.hops.length cap2] 30) := ⟨_, rfl⟩
  have hbw : Below w.heap.size w wb := by rw [hwb]; exact below1 _ _
  have hB : Blk wb w.heap.size 30 #[.slice A1 t.routes.length cap1, .slice A2 t.hops.length cap2] := by rw [hwb]; exact Blk.new _ _ _
  rw [← hwb]
  clear hwb
  have HB := hide hB
  have b0 := hB.cell 0
  have b1 := hB.cell 1
  clear hB
  go_wp2_with fail
  refine (specFind_any _ t a _ (hvv.up hbw) hn).mono ?_
  rintro e w1 ⟨b, rfl, hF, hb1⟩
  have hb01 := hbw.trans (hb1.mono hbw.size)
  have HB1 := hide (HB.out.up hb1)
  clear b0 b1 HB hb1 hbw
  have b0 := HB1.out.cell 0
  have b1 := HB1.out.cell 1
  by_cases h0 : b < 0
  · have HF := hide hF
    clear hF
    go_wp2
    go_ret
    exact ⟨-1, rfl, ⟨b, HF.out, .inl ⟨h0, rfl⟩⟩, hb01⟩
  · have hF' := hF
    rcases hF' with ⟨⟨hV, ha⟩, h1 | ⟨m, q, rfl, hm, hq, _⟩⟩ | ⟨_, h1⟩
    · omega
    · have hrv := hV.rv hq
      obtain ⟨hp0, hp1⟩ := hrv.2.2.2
      obtain ⟨x, y, z⟩ := q
      simp only at hp0 hp1
      obtain ⟨j, rfl⟩ := Int.eq_ofNat_of_zero_le hp0
      obtain ⟨n, hh⟩ := get_some (l := t.hops) (i := j) (by omega)
      have hjl : j < t.hops.length := by omega
      obtain ⟨g, off, rfl, hb, hcell⟩ := hr1 (by omega)
      obtain ⟨g', off', rfl, hb', hcell'⟩ := hr2 (by omega)
      obtain ⟨q1, q2, q3⟩ := routeAt (hcell.keep (w' := w1) fun p hp => hb01.cell (by omega)) hq
      have q4 := intAt (hcell'.keep (w' := w1) fun p hp => hb01.cell (by omega)) hh
      simp only at q3
      have HR : Hid (HpR t a n) := hide ⟨m, hF, .inr ⟨_, by omega, hq, hh⟩⟩
      clear hrv hF hq hh hV ha
      go_upto_region 4 with fail
      have e0 := fun x => wext_cell w1 x b0
      have e1 := fun x => wext_cell w1 x b1
      have e2 := fun x => wext_cell w1 x q3
      have e3 := fun x => wext_cell w1 x q4
      refine region_q (by kernel_rfl) (by kernel_rfl) ?_
      repeat (go_big_quiet_step ((first | (fail))))
      refine wpQuiet_nil ?_
      intro wx hbx
      go_wp2
      go_ret
      exact ⟨n, rfl, HR.out, hb01.trans (hbx.mono hb01.size)⟩
    · omega
end Go.Proofs.Ytlkchocjldllgaa
