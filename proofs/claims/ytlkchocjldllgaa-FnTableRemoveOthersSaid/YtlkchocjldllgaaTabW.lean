/- TableValid, of the program and of the reference: both return whether the table is valid. Conditions: at most 1048576 routes and hops. -/
import Derived.Test.YtlkchocjldllgaaTabV
namespace Go.Proofs.Ytlkchocjldllgaa
open Go.RowKit

theorem cmpR_neg (a b : Rt) : cmpR a b < 0 ↔ Rl a b := by
  unfold cmpR orI cmpI Rl
  by_cases h1 : a.pre < b.pre
  · simp [h1]
  · by_cases h2 : b.pre < a.pre
    · simp only [if_neg h1, if_pos h2]
      simp
      omega
    · have h3 : a.pre = b.pre := by omega
      simp only [if_neg h1, if_neg h2]
      by_cases h4 : a.bits < b.bits
      · simp [h4, h3]
      · simp only [if_neg h4]
        by_cases h5 : b.bits < a.bits
        · simp [h5, h3, h4]
        · simp [h5, h3, h4]
theorem cmpR_zero (a b : Rt) : cmpR a b = 0 ↔ a.pre = b.pre ∧ a.bits = b.bits := by
  unfold cmpR orI cmpI
  by_cases h1 : a.pre < b.pre
  · simp [h1]; omega
  · by_cases h2 : b.pre < a.pre
    · simp only [if_neg h1, if_pos h2]
      simp
      omega
    · have h3 : a.pre = b.pre := by omega
      simp only [if_neg h1, if_neg h2]
      by_cases h4 : a.bits < b.bits
      · simp [h4, h3]; omega
      · simp only [if_neg h4]
        by_cases h5 : b.bits < a.bits
        · simp [h5, h3]; omega
        · simp [h5, h3]; omega

/-- What is wrong with route r at place k. -/
def rBad (t : Tab) (k : Nat) (r : Rt) : Prop := ¬ RV r t.hops.length ∨ (∃ p, 0 < k ∧ t.routes[k-1]? = some p ∧ ¬ Rl p r)
structure TV (t : Tab) : Prop where
  len : t.hops.length ≤ 4 ∧ t.routes.length ≤ 10
  hops : ∀ (i : Nat) (n : Int), t.hops[i]? = some n → 0 ≤ n ∧ n ≤ 7
  routes : ∀ (i : Nat) (r : Rt), t.routes[i]? = some r → ¬ rBad t i r

set_option maxHeartbeats 1600000 in
theorem tableValid_any (v : Value) (t : Tab) (w : World) (hv : TbR w w.heap.size v t) (hn : t.routes.length ≤ 1048576 ∧ t.hops.length ≤ 1048576) :
    Calls Try.prog 25 #[v] w fun e w' => e = .returned (.bool (tb (TV t))) ∧ Below w.heap.size w w' := by
  obtain ⟨v1, v2, rfl, ⟨A1, cap1, rfl, hc1, hr1⟩, ⟨A2, cap2, rfl, hc2, hr2⟩⟩ := hv
  obtain ⟨hn1, hn2⟩ := hn
  by_cases h4 : t.hops.length ≤ 4
  · by_cases h10 : t.routes.length ≤ 10
    · go_enter Try.func25, Try.ntmps25
      go_upto_region 3 with fail
      obtain ⟨wb, hwb⟩ : ∃ wb, wb = w.alloc (.cells #[.slice A1 t.routes.length cap1, .slice A2 t.hops.length cap2] 30) := ⟨_, rfl⟩
      have hbw : Below w.heap.size w wb := by rw [hwb]; exact below1 _ _
      have hB : Blk wb w.heap.size 30 #[.slice A1 t.routes.length cap1, .slice A2 t.hops.length cap2] := by rw [hwb]; exact Blk.new _ _ _
      rw [← hwb]
      clear hwb
      have HB := hide hB
      have b0 := hB.cell 0
      have b1 := hB.cell 1
      clear hB
      go_wp2
      go_loopg [20] (t.hops.length) (fun g i wr => ∃ k : Nat, k + g = t.hops.length ∧ i = .int .i64 k ∧ wr = wb ∧ Hid (∀ (i : Nat) (n : Int), i < k → t.hops[i]? = some n → 0 ≤ n ∧ n ≤ 7))
      case atStart => exact ⟨0, by omega, rfl, rfl, hide (fun i c h => by omega)⟩
      case round =>
        obtain ⟨k, hk, rfl, hw, HN⟩ := hrel
        subst hw
        by_cases hlt : k < t.hops.length
        · obtain ⟨b, off, rfl, hb, hcell⟩ := hr2 (by omega)
          obtain ⟨n, hck⟩ := get_some hlt
          have g1 := intAt (hcell.keep (w' := wr) fun p hp => hbw.cell (by omega)) hck
          have HC := hide hck
          clear hck
          by_cases h7 : 0 ≤ n ∧ n ≤ 7
          · have H7 := hide h7
            go_wp2_with (go_at_call 54; refine (within_t _ _ _ _ ?_).mono ?_; exact h7; rintro e w1 ⟨rfl, rfl⟩)
            go_roundg (gk - 1)
            case measure => omega
            case rel =>
              refine ⟨k + 1, by omega, by go_num, rfl, hide (fun i c' hi hc' => ?_)⟩
              rcases Nat.lt_succ_iff_lt_or_eq.1 hi with h | h
              · exact HN.out i c' h hc'
              · subst h; rw [HC.out] at hc'; cases hc'; exact H7.out
          · have H7 := hide h7
            go_wp2_with (go_at_call 54; refine (within_f _ _ _ _ ?_).mono ?_; exact h7; rintro e w1 ⟨rfl, rfl⟩)
            go_ret
            exact ⟨ret_bool (tb_no fun h => H7.out (h.hops k n HC.out)).symm, hbw⟩
        · have HN' : Hid (∀ (i : Nat) (n : Int), t.hops[i]? = some n → 0 ≤ n ∧ n ≤ 7) := hide fun i n h => HN.out i n (by have := get_lt h; omega) h
          clear HN
          obtain ⟨wb, hwb⟩ : ∃ wb, wb = wr := ⟨_, rfl⟩
          subst hwb
          go_wp2
          go_loopg [31] (t.routes.length) (fun g i wr => ∃ k : Nat, k + g = t.routes.length ∧ i = .int .i64 k ∧ Below wb.heap.size wb wr ∧ Hid (∀ (i : Nat) (c : Rt), i < k → t.routes[i]? = some c → ¬ rBad t i c))
          case atStart => exact ⟨0, by omega, rfl, Below.refl _ _, hide (fun i c h => by omega)⟩
          case round =>
            obtain ⟨k, hk, rfl, hbe, HV⟩ := hrel
            by_cases hlt : k < t.routes.length
            · obtain ⟨b, off, rfl, hb, hcell⟩ := hr1 (by omega)
              obtain ⟨r, hck⟩ := get_some hlt
              have hbwe := hbw.trans (hbe.mono hbw.size)
              obtain ⟨g1, g2, g3⟩ := routeAt (hcell.keep (w' := wr) fun p hp => hbwe.cell (by omega)) hck
              have HC := hide hck
              clear hck
              have hBr := HB.out.up hbe
              have c0 := hBr.cell 0
              have c1 := hBr.cell 1
              clear hBr
              go_upto_region 12 with fail
              obtain ⟨wd, hwd⟩ : ∃ wd, wd = wr.alloc (Obj.cells #[Value.int IntKind.i64 r.pre, Value.int IntKind.i64 r.bits, Value.int IntKind.i64 r.hop] 40) := ⟨_, rfl⟩
              have hbd : Below wb.heap.size wb wd := by rw [hwd]; exact hbe.alloc hbe.size _
              have f1 : wd.cell? ⟨wr.heap.size, 0, none⟩ = some (.int .i64 r.pre) := by rw [hwd]; exact new3_0 _ _ _ _ _
              have f2 : wd.cell? ⟨wr.heap.size, 1, none⟩ = some (.int .i64 r.bits) := by rw [hwd]; exact new3_1 _ _ _ _ _
              have f3 : wd.cell? ⟨wr.heap.size, 2, none⟩ = some (.int .i64 r.hop) := by rw [hwd]; exact new3_2 _ _ _ _ _
              rw [← hwd]
              clear hwd
              have hbwd := hbw.trans (hbd.mono hbw.size)
              have hBd := HB.out.up hbd
              have d0 := hBd.cell 0
              have d1 := hBd.cell 1
              clear hBd c0 c1 g1 g2 g3
              go_cut [56] (fun s wx => s = .bool (tb (rBad t k r)) ∧ Below wb.heap.size wb wx)
              case first =>
                have e0 := fun x => wext_cell wd x d0
                have e1 := fun x => wext_cell wd x d1
                have e2 := fun x => wext_cell wd x f1
                have e3 := fun x => wext_cell wd x f2
                have e4 := fun x => wext_cell wd x f3
                have hrv := fun W => routeValid_any r t.hops.length W (by omega)
                by_cases h1 : RV r t.hops.length
                · rw [tb_yes h1] at hrv
                  have HRV := hide hrv
                  have H1 := hide h1
                  clear hrv h1
                  by_cases h0 : 0 < k
                  · obtain ⟨p, hp⟩ := get_some (l := t.routes) (i := k - 1) (by omega)
                    obtain ⟨q1, q2, q3⟩ := routeAt (hcell.keep (w' := wd) fun p hp => hbwd.cell (by omega)) hp
                    have e5 := fun x => wext_cell wd x q1
                    have e6 := fun x => wext_cell wd x q2
                    have e7 := fun x => wext_cell wd x q3
                    have HP := hide hp
                    clear hp
                    obtain ⟨c, hcc⟩ : ∃ c, c = cmpR p r := ⟨_, rfl⟩
                    have hcm := fun W => compareRoutes_any p r W
                    rw [← hcc] at hcm
                    have HCM := hide hcm
                    have hneg := cmpR_neg p r
                    rw [← hcc] at hneg
                    clear hcm hcc
                    by_cases h5 : Rl p r
                    · have hc0 := hneg.2 h5
                      have hc1 : ¬ 0 ≤ c := by omega
                      have H5 := hide h5
                      clear hneg h5
                      refine region_q (by kernel_rfl) (by kernel_rfl) ?_
                      repeat (go_big_quiet_step ((first | (go_at_call 55; exact q_call (HRV.out _)) | (go_at_call 56; exact q_call (HCM.out _)))))
                      refine wpQuiet_nil ?_
                      intro wx hbx
                      go_wp2_with fail
                      go_meet
                      refine ⟨?_, hbd.trans (hbx.mono hbd.size)⟩
                      rw [tb_no]
                      rintro (h | ⟨q, _, hq, h⟩)
                      · exact h H1.out
                      · rw [HP.out] at hq; cases hq; exact h H5.out
                    · have hc1 : 0 ≤ c := by
                        apply Classical.byContradiction
                        intro h
                        exact h5 (hneg.1 (by omega))
                      have H5 := hide h5
                      clear hneg h5
                      refine region_q (by kernel_rfl) (by kernel_rfl) ?_
                      repeat (go_big_quiet_step ((first | (go_at_call 55; exact q_call (HRV.out _)) | (go_at_call 56; exact q_call (HCM.out _)))))
                      refine wpQuiet_nil ?_
                      intro wx hbx
                      go_wp2_with fail
                      go_meet
                      exact ⟨by rw [tb_yes (.inr ⟨p, h0, HP.out, H5.out⟩)], hbd.trans (hbx.mono hbd.size)⟩
                  · refine region_q (by kernel_rfl) (by kernel_rfl) ?_
                    repeat (go_big_quiet_step ((first | (go_at_call 55; exact q_call (HRV.out _)) | (go_at_call 56; exact q_call (HCM.out _)))))
                    refine wpQuiet_nil ?_
                    intro wx hbx
                    go_wp2_with fail
                    go_meet
                    refine ⟨?_, hbd.trans (hbx.mono hbd.size)⟩
                    rw [tb_no]
                    rintro (h | ⟨q, h, _⟩)
                    · exact h H1.out
                    · exact h0 h
                · rw [tb_no h1] at hrv
                  have HRV := hide hrv
                  have H1 := hide h1
                  clear hrv h1
                  refine region_q (by kernel_rfl) (by kernel_rfl) ?_
                  repeat (go_big_quiet_step ((first | (go_at_call 55; exact q_call (HRV.out _)) | (go_at_call 56; exact q_call (HCM.out _)))))
                  refine wpQuiet_nil ?_
                  intro wx hbx
                  go_wp2_with fail
                  go_meet
                  exact ⟨by rw [tb_yes (.inl H1.out)], hbd.trans (hbx.mono hbd.size)⟩
              case rest =>
                obtain ⟨rfl, hb2⟩ := hcut
                by_cases hbad : rBad t k r
                · rw [tb_yes hbad]
                  have HBAD := hide hbad
                  clear hbad
                  go_wp2
                  go_ret
                  exact ⟨ret_bool (tb_no fun h => h.routes k r HC.out HBAD.out).symm, hbw.trans (hb2.mono hbw.size)⟩
                · rw [tb_no hbad]
                  have HBAD := hide hbad
                  clear hbad
                  go_wp2
                  go_roundg (gk - 1)
                  case measure => omega
                  case rel =>
                    refine ⟨k + 1, by omega, by go_num, hb2, hide (fun i c' hi hc' => ?_)⟩
                    rcases Nat.lt_succ_iff_lt_or_eq.1 hi with h | h
                    · exact HV.out i c' h hc'
                    · subst h; rw [HC.out] at hc'; cases hc'; exact HBAD.out
            · go_wp2
              go_ret
              exact ⟨ret_bool (tb_yes ⟨⟨h4, h10⟩, HN'.out, fun i c hc => HV.out i c (by have := get_lt hc; omega) hc⟩).symm, hbw.trans (hbe.mono hbw.size)⟩
    · have HH := hide h10
      go_enter Try.func25, Try.ntmps25
      go_wp2
      go_ret
      exact ⟨ret_bool (tb_no fun h => HH.out h.len.2).symm, below1 _ _⟩
  · have HH := hide h4
    go_enter Try.func25, Try.ntmps25
    go_wp2
    go_ret
    exact ⟨ret_bool (tb_no fun h => HH.out h.len.1).symm, below1 _ _⟩
end Go.Proofs.Ytlkchocjldllgaa
