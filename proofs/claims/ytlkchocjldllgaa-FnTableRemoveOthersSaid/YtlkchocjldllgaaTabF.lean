/- TableFind of the program: the index of the longest route that matches. Conditions: at most 1048576 routes and hops. -/
import Derived.Test.YtlkchocjldllgaaTabW
namespace Go.Proofs.Ytlkchocjldllgaa
open Go.RowKit

/-- b is the first longest of the first k routes that match a. -/
def Fd (t : Tab) (a : Int) (k : Nat) (b : Int) : Prop :=
  (b = -1 ∧ ∀ (i : Nat) (r : Rt), i < k → t.routes[i]? = some r → ¬ Mt r a) ∨
  (∃ (m : Nat) (q : Rt), b = m ∧ m < k ∧ t.routes[m]? = some q ∧ Mt q a ∧ ∀ (i : Nat) (r : Rt), i < k → t.routes[i]? = some r → Mt r a → r.bits < q.bits ∨ (r.bits = q.bits ∧ m ≤ i))
/-- Route r at place k is better than b. -/
def FdBetter (t : Tab) (b : Int) (r : Rt) : Prop := b < 0 ∨ ∃ q, t.routes[b.toNat]? = some q ∧ q.bits < r.bits
theorem Fd.zero (t : Tab) (a : Int) : Fd t a 0 (-1) := .inl ⟨rfl, fun i r h => by omega⟩
theorem Fd.take {t : Tab} {a : Int} {k : Nat} {b : Int} {r : Rt} (h : Fd t a k b) (hr : t.routes[k]? = some r) (hm : Mt r a) (hb : FdBetter t b r) : Fd t a (k + 1) k := by
  refine .inr ⟨k, r, rfl, by omega, hr, hm, fun i x hi hx hmx => ?_⟩
  rcases Nat.lt_succ_iff_lt_or_eq.1 hi with h1 | h1
  · rcases h with ⟨_, h2⟩ | ⟨m, q, rfl, h2, h3, h4, h5⟩
    · exact absurd hmx (h2 i x h1 hx)
    · rcases hb with hb | ⟨q', hb1, hb2⟩
      · omega
      · rw [show ((m : Int).toNat) = m from rfl, h3] at hb1
        cases hb1
        rcases h5 i x h1 hx hmx with h6 | ⟨h6, _⟩
        · exact .inl (by omega)
        · exact .inl (by omega)
  · subst h1
    rw [hr] at hx
    cases hx
    exact .inr ⟨rfl, Nat.le_refl _⟩
theorem Fd.keep {t : Tab} {a : Int} {k : Nat} {b : Int} {r : Rt} (h : Fd t a k b) (hr : t.routes[k]? = some r) (hno : ¬ (Mt r a ∧ FdBetter t b r)) : Fd t a (k + 1) b := by
  rcases h with ⟨h1, h2⟩ | ⟨m, q, rfl, h2, h3, h4, h5⟩
  · refine .inl ⟨h1, fun i x hi hx hmx => ?_⟩
    rcases Nat.lt_succ_iff_lt_or_eq.1 hi with h6 | h6
    · exact h2 i x h6 hx hmx
    · subst h6
      rw [hr] at hx
      cases hx
      exact hno ⟨hmx, .inl (by omega)⟩
  · refine .inr ⟨m, q, rfl, by omega, h3, h4, fun i x hi hx hmx => ?_⟩
    rcases Nat.lt_succ_iff_lt_or_eq.1 hi with h6 | h6
    · exact h5 i x h6 hx hmx
    · subst h6
      rw [hr] at hx
      cases hx
      have h7 : ¬ q.bits < r.bits := fun h8 => hno ⟨hmx, .inr ⟨q, h3, h8⟩⟩
      by_cases h8 : r.bits = q.bits
      · exact .inr ⟨h8, by omega⟩
      · exact .inl (by omega)
theorem Fd.uniq {t : Tab} {a : Int} {k : Nat} {b b' : Int} (h : Fd t a k b) (h' : Fd t a k b') : b = b' := by
  rcases h with ⟨h1, h2⟩ | ⟨m, q, h1, h2, h3, h4, h5⟩
  · rcases h' with ⟨h1', h2'⟩ | ⟨m', q', h1', h2', h3', h4', h5'⟩
    · rw [h1, h1']
    · exact absurd h4' (h2 m' q' h2' h3')
  · rcases h' with ⟨h1', h2'⟩ | ⟨m', q', h1', h2', h3', h4', h5'⟩
    · exact absurd h4 (h2' m q h2 h3)
    · have ha := h5 m' q' h2' h3' h4'
      have hb := h5' m q h2 h3 h4
      have : m = m' := by omega
      rw [h1, h1', this]

/-- What TableFind answers. -/
def FdR (t : Tab) (a : Int) (b : Int) : Prop := ((TV t ∧ (0 ≤ a ∧ a ≤ 255)) ∧ Fd t a t.routes.length b) ∨ (¬ (TV t ∧ (0 ≤ a ∧ a ≤ 255)) ∧ b = -1)
theorem FdR.uniq {t : Tab} {a b b' : Int} (h : FdR t a b) (h' : FdR t a b') : b = b' := by
  rcases h with ⟨h1, h2⟩ | ⟨h1, h2⟩
  · rcases h' with ⟨_, h3⟩ | ⟨h3, _⟩
    · exact h2.uniq h3
    · exact absurd h1 h3
  · rcases h' with ⟨h3, _⟩ | ⟨_, h3⟩
    · exact absurd h3 h1
    · rw [h2, h3]
theorem TV.rv {t : Tab} (h : TV t) {k : Nat} {r : Rt} (hr : t.routes[k]? = some r) : RV r t.hops.length := Classical.byContradiction fun h1 => h.routes k r hr (.inl h1)
theorem TV.asc {t : Tab} (h : TV t) {k : Nat} {p r : Rt} (hp : t.routes[k]? = some p) (hr : t.routes[k+1]? = some r) : Rl p r := Classical.byContradiction fun h1 => h.routes (k + 1) r hr (.inr ⟨p, by omega, by simpa using hp, h1⟩)

set_option maxHeartbeats 1600000 in
theorem find_any (v : Value) (t : Tab) (a : Int) (w : World) (hv : TbR w w.heap.size v t) (hn : t.routes.length ≤ 1048576 ∧ t.hops.length ≤ 1048576) :
    Calls Try.prog 28 #[v, .int .i64 a] w fun e w' => ∃ b, e = .returned (.int .i64 b) ∧ FdR t a b ∧ Below w.heap.size w w' := by
  have hvv := hv
  obtain ⟨v1, v2, rfl, ⟨A1, cap1, rfl, hc1, hr1⟩, ⟨A2, cap2, rfl, hc2, hr2⟩⟩ := hv
  go_enter Try.func28, Try.ntmps28
  go_upto_region 1 with fail
  obtain ⟨wb, hwb⟩ : ∃ wb, wb = w.alloc (.cells #[.slice A1 t.routes.length cap1, .slice A2 t.hops.length cap2] 30) := ⟨_, rfl⟩
  have hbw : Below w.heap.size w wb := by rw [hwb]; exact below1 _ _
  have hB : Blk wb w.heap.size 30 #[.slice A1 t.routes.length cap1, .slice A2 t.hops.length cap2] := by rw [hwb]; exact Blk.new _ _ _
  rw [← hwb]
  clear hwb
  have HB := hide hB
  have b0 := hB.cell 0
  have b1 := hB.cell 1
  clear hB
  have hn1 := hn.1
  go_wp2_with fail
  refine (tableValid_any _ t _ (hvv.up hbw) hn).mono ?_
  rintro e w1 ⟨rfl, hb1⟩
  have hb01 := hbw.trans (hb1.mono hbw.size)
  have HB1 := hide (HB.out.up hb1)
  clear b0 b1 HB hb1 hbw
  have b0 := HB1.out.cell 0
  have b1 := HB1.out.cell 1
  by_cases hV : TV t
  · by_cases ha : 0 ≤ a ∧ a ≤ 255
    · rw [tb_yes hV]
      have HV := hide hV
      have HA := hide ha
      clear hV
      go_wp2_with (go_at_call 54; refine (within_t _ _ _ _ ?_).mono ?_; exact ha; rintro e w2 ⟨rfl, rfl⟩)
      obtain ⟨wb, hwb⟩ : ∃ wb, wb = w2 := ⟨_, rfl⟩
      subst hwb
      go_loopg [5, 19] (t.routes.length) (fun g bv iv wr => ∃ (k : Nat) (b : Int), k + g = t.routes.length ∧ iv = .int .i64 k ∧ bv = .int .i64 b ∧ -1 ≤ b ∧ b < k ∧ Hid (Fd t a k b) ∧ Below wb.heap.size wb wr)
      case atStart => exact ⟨0, -1, by omega, rfl, rfl, by omega, by omega, hide (Fd.zero t a), Below.refl _ _⟩
      case round =>
        obtain ⟨k, b, hk, rfl, rfl, hb1, hb2, HF, hbe⟩ := hrel
        by_cases hlt : k < t.routes.length
        · obtain ⟨g, off, rfl, hb, hcell⟩ := hr1 (by omega)
          obtain ⟨r, hck⟩ := get_some hlt
          have hbwe := hb01.trans (hbe.mono hb01.size)
          obtain ⟨g1, g2, g3⟩ := routeAt (hcell.keep (w' := wr) fun p hp => hbwe.cell (by omega)) hck
          have hrv := HV.out.rv hck
          have hmt := fun W => mt_any r a W hrv.1 HA.out hrv.2.1
          have HC := hide hck
          clear hck hrv
          have hBr := HB1.out.up hbe
          have c0 := hBr.cell 0
          have c1 := hBr.cell 1
          clear hBr
          go_upto_region 7 with fail
          obtain ⟨wd, hwd⟩ : ∃ wd, wd = wr.alloc (Obj.cells #[Value.int IntKind.i64 r.pre, Value.int IntKind.i64 r.bits, Value.int IntKind.i64 r.hop] 40) := ⟨_, rfl⟩
          have hbd : Below wb.heap.size wb wd := by rw [hwd]; exact hbe.alloc hbe.size _
          have f1 : wd.cell? ⟨wr.heap.size, 0, none⟩ = some (.int .i64 r.pre) := by rw [hwd]; exact new3_0 _ _ _ _ _
          have f2 : wd.cell? ⟨wr.heap.size, 1, none⟩ = some (.int .i64 r.bits) := by rw [hwd]; exact new3_1 _ _ _ _ _
          have f3 : wd.cell? ⟨wr.heap.size, 2, none⟩ = some (.int .i64 r.hop) := by rw [hwd]; exact new3_2 _ _ _ _ _
          rw [← hwd]
          clear hwd
          have hbwd := hb01.trans (hbd.mono hb01.size)
          have hBd := HB1.out.up hbd
          have d0 := hBd.cell 0
          have d1 := hBd.cell 1
          clear hBd c0 c1 g1 g2 g3
          go_cut [41] (fun s wx => s = .bool (tb (Mt r a ∧ FdBetter t b r)) ∧ Below wb.heap.size wb wx)
          case first =>
            have e0 := fun x => wext_cell wd x d0
            have e1 := fun x => wext_cell wd x d1
            have e2 := fun x => wext_cell wd x f1
            have e3 := fun x => wext_cell wd x f2
            have e4 := fun x => wext_cell wd x f3
            by_cases hm : Mt r a
            · rw [tb_yes hm] at hmt
              have HMT := hide hmt
              have HM := hide hm
              clear hmt hm
              by_cases h0 : b < 0
              · refine region_q (by kernel_rfl) (by kernel_rfl) ?_
                repeat (go_big_quiet_step ((first | (go_at_call 60; exact q_call (HMT.out _)))))
                refine wpQuiet_nil ?_
                intro wx hbx
                go_wp2_with fail
                go_meet
                exact ⟨by rw [tb_yes ⟨HM.out, .inl h0⟩], hbd.trans (hbx.mono hbd.size)⟩
              · obtain ⟨m, rfl⟩ := Int.eq_ofNat_of_zero_le (show 0 ≤ b by omega)
                obtain ⟨q, hq⟩ := get_some (l := t.routes) (i := m) (by omega)
                obtain ⟨q1, q2, q3⟩ := routeAt (hcell.keep (w' := wd) fun p hp => hbwd.cell (by omega)) hq
                have e5 := fun x => wext_cell wd x q2
                have HQ := hide hq
                clear hq
                have hml : m < t.routes.length := by omega
                by_cases h5 : q.bits < r.bits
                · refine region_q (by kernel_rfl) (by kernel_rfl) ?_
                  repeat (go_big_quiet_step ((first | (go_at_call 60; exact q_call (HMT.out _)))))
                  refine wpQuiet_nil ?_
                  intro wx hbx
                  go_wp2_with fail
                  go_meet
                  exact ⟨by rw [tb_yes ⟨HM.out, .inr ⟨q, HQ.out, h5⟩⟩], hbd.trans (hbx.mono hbd.size)⟩
                · refine region_q (by kernel_rfl) (by kernel_rfl) ?_
                  repeat (go_big_quiet_step ((first | (go_at_call 60; exact q_call (HMT.out _)))))
                  refine wpQuiet_nil ?_
                  intro wx hbx
                  go_wp2_with fail
                  go_meet
                  refine ⟨?_, hbd.trans (hbx.mono hbd.size)⟩
                  rw [tb_no]
                  rintro ⟨_, h | ⟨q', h, h'⟩⟩
                  · omega
                  · rw [show ((m : Int).toNat) = m from rfl, HQ.out] at h
                    cases h
                    omega
            · rw [tb_no hm] at hmt
              have HMT := hide hmt
              have HM := hide hm
              clear hmt hm
              refine region_q (by kernel_rfl) (by kernel_rfl) ?_
              repeat (go_big_quiet_step ((first | (go_at_call 60; exact q_call (HMT.out _)))))
              refine wpQuiet_nil ?_
              intro wx hbx
              go_wp2_with fail
              go_meet
              exact ⟨by rw [tb_no fun h => HM.out h.1], hbd.trans (hbx.mono hbd.size)⟩
          case rest =>
            obtain ⟨rfl, hbc⟩ := hcut
            by_cases hx : Mt r a ∧ FdBetter t b r
            · rw [tb_yes hx]
              have HX := hide hx
              clear hx hmt
              go_wp2
              go_roundg (gk - 1)
              case measure => omega
              case rel => exact ⟨k + 1, k, by omega, by go_num, rfl, by omega, by omega, hide (HF.out.take HC.out HX.out.1 HX.out.2), hbc⟩
            · rw [tb_no hx]
              have HX := hide hx
              clear hx hmt
              go_wp2
              go_roundg (gk - 1)
              case measure => omega
              case rel => exact ⟨k + 1, b, by omega, by go_num, rfl, by omega, by omega, hide (HF.out.keep HC.out HX.out), hbc⟩
        · have hkk : k = t.routes.length := by omega
          have HF' : Hid (Fd t a t.routes.length b) := hide (hkk ▸ HF.out)
          clear HF
          go_wp2
          go_ret
          exact ⟨b, rfl, .inl ⟨⟨HV.out, HA.out⟩, HF'.out⟩, hb01.trans (hbe.mono hb01.size)⟩
    · rw [tb_yes hV]
      have HA := hide ha
      clear hV
      go_wp2_with (go_at_call 54; refine (within_f _ _ _ _ ?_).mono ?_; exact ha; rintro e w2 ⟨rfl, rfl⟩)
      go_ret
      exact ⟨-1, rfl, .inr ⟨fun h => HA.out h.2, rfl⟩, hb01⟩
  · rw [tb_no hV]
    have HV := hide hV
    clear hV
    go_wp2
    go_ret
    exact ⟨-1, rfl, .inr ⟨fun h => HV.out h.1, rfl⟩, hb01⟩
end Go.Proofs.Ytlkchocjldllgaa
