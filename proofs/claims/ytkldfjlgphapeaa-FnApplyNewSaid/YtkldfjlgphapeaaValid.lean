/- CandidatesValid, of the program and of the reference: both return whether the candidates are valid. Conditions: at most 1048576 candidates. -/
import Derived.Test.YtkldfjlgphapeaaCandS
namespace Go.Proofs.Ytkldfjlgphapeaa
open Go.RowKit

/-- What is wrong with candidate c at place k. -/
def badAt (cs : List Cand) (k : Nat) (c : Cand) : Prop :=
  ¬ (0 ≤ c.node ∧ c.node ≤ 7) ∨ ¬ (0 ≤ c.prio ∧ c.prio ≤ 9) ∨ ¬ (0 ≤ c.claim ∧ c.claim ≤ 2) ∨ (∃ p, 0 < k ∧ cs[k-1]? = some p ∧ c.node ≤ p.node)
def Valid (cs : List Cand) : Prop := ∀ i c, cs[i]? = some c → ¬ badAt cs i c
noncomputable def validB (cs : List Cand) : Bool := tb (Valid cs)

set_option maxHeartbeats 1000000 in
theorem candidatesValid_any (v : Value) (cs : List Cand) (w : World) (hv : SlR cc 3 w w.heap.size v cs) (hn : cs.length ≤ 1048576) :
    Calls Try.prog 16 #[v] w fun e w' => e = .returned (.bool (validB cs)) ∧ Below w.heap.size w w' := by
  obtain ⟨A, cap, rfl, hc, hr⟩ := hv
  go_enter Try.func16, Try.ntmps16
  go_wp2
  go_loopg [7] (cs.length) (fun g i wr => ∃ k : Nat, k + g = cs.length ∧ i = .int .i64 k ∧ Below w.heap.size w wr ∧ Hid (∀ i c, i < k → cs[i]? = some c → ¬ badAt cs i c))
  case atStart => exact ⟨0, by omega, rfl, Below.refl _ _, hide (fun i c h => by omega)⟩
  case round =>
    obtain ⟨k, hk, rfl, hbe, HV⟩ := hrel
    by_cases hlt : k < cs.length
    · obtain ⟨b, off, rfl, hb, hcell⟩ := hr (by omega)
      obtain ⟨c, hck⟩ := get_some hlt
      obtain ⟨g1, g2, g3⟩ := candAt (hcell.keep (w' := wr) fun p hp => hbe.cell (by omega)) hck
      have HC := hide hck
      clear hck
      go_upto_region 4 with fail
      obtain ⟨wc, hwc⟩ : ∃ wc, wc = wr.alloc (Obj.cells #[Value.int IntKind.i64 c.node, Value.int IntKind.i64 c.prio, Value.int IntKind.i64 c.claim] 34) := ⟨_, rfl⟩
      have hbc : Below w.heap.size w wc := by rw [hwc]; exact hbe.alloc hbe.size _
      have f1 : wc.cell? ⟨wr.heap.size, 0, none⟩ = some (.int .i64 c.node) := by rw [hwc]; simp [go_sem]
      have f2 : wc.cell? ⟨wr.heap.size, 1, none⟩ = some (.int .i64 c.prio) := by rw [hwc]; simp [go_sem]
      have f3 : wc.cell? ⟨wr.heap.size, 2, none⟩ = some (.int .i64 c.claim) := by rw [hwc]; simp [go_sem]
      rw [← hwc]
      clear hwc
      go_cut [42] (fun s wx => s = .bool (tb (badAt cs k c)) ∧ Below w.heap.size w wx)
      case first =>
        have e1 := fun x => wext_cell wc x f1
        have e2 := fun x => wext_cell wc x f2
        have e3 := fun x => wext_cell wc x f3
        by_cases h1 : 0 ≤ c.node ∧ c.node ≤ 7
        · by_cases h2 : 0 ≤ c.prio ∧ c.prio ≤ 9
          · by_cases h3 : 0 ≤ c.claim ∧ c.claim ≤ 2
            · by_cases h4 : 0 < k
              · obtain ⟨p, hp⟩ := get_some (l := cs) (i := k - 1) (by omega)
                have g4 : wc.cell? ⟨b, off + (k - 1) * 3, none⟩ = some (.int .i64 p.node) := (hbc.cell (by exact hb)).trans (candAt hcell hp).1
                have e4 := fun x => wext_cell wc x g4
                have HP := hide hp
                clear hp
                by_cases h5 : c.node ≤ p.node
                · refine region_q (by kernel_rfl) (by kernel_rfl) ?_
                  repeat (go_big_quiet_step ((first | (go_at_call 30; refine q_same (within_t _ _ _ _ ?_); omega) | (go_at_call 30; refine q_same (within_f _ _ _ _ ?_); omega) | (go_at_call 28; refine q_same (l6In_t _ _ _ _ ?_); omega) | (go_at_call 28; refine q_same (l6In_f _ _ _ _ ?_); omega))))
                  refine wpQuiet_nil ?_
                  intro wx hbx
                  go_wp2_with fail
                  go_meet
                  exact ⟨by rw [tb_yes (.inr (.inr (.inr ⟨p, h4, HP.out, h5⟩)))], hbc.trans (hbx.mono hbc.size)⟩
                · refine region_q (by kernel_rfl) (by kernel_rfl) ?_
                  repeat (go_big_quiet_step ((first | (go_at_call 30; refine q_same (within_t _ _ _ _ ?_); omega) | (go_at_call 30; refine q_same (within_f _ _ _ _ ?_); omega) | (go_at_call 28; refine q_same (l6In_t _ _ _ _ ?_); omega) | (go_at_call 28; refine q_same (l6In_f _ _ _ _ ?_); omega))))
                  refine wpQuiet_nil ?_
                  intro wx hbx
                  go_wp2_with fail
                  go_meet
                  refine ⟨?_, hbc.trans (hbx.mono hbc.size)⟩
                  rw [tb_no]
                  rintro (h | h | h | ⟨q, _, hq, h⟩)
                  · exact h h1
                  · exact h h2
                  · exact h h3
                  · rw [HP.out] at hq; cases hq; omega
              · refine region_q (by kernel_rfl) (by kernel_rfl) ?_
                repeat (go_big_quiet_step ((first | (go_at_call 30; refine q_same (within_t _ _ _ _ ?_); omega) | (go_at_call 30; refine q_same (within_f _ _ _ _ ?_); omega) | (go_at_call 28; refine q_same (l6In_t _ _ _ _ ?_); omega) | (go_at_call 28; refine q_same (l6In_f _ _ _ _ ?_); omega))))
                refine wpQuiet_nil ?_
                intro wx hbx
                go_wp2_with fail
                go_meet
                refine ⟨?_, hbc.trans (hbx.mono hbc.size)⟩
                rw [tb_no]
                rintro (h | h | h | ⟨q, h, _⟩)
                · exact h h1
                · exact h h2
                · exact h h3
                · exact h4 h
            · refine region_q (by kernel_rfl) (by kernel_rfl) ?_
              repeat (go_big_quiet_step ((first | (go_at_call 30; refine q_same (within_t _ _ _ _ ?_); omega) | (go_at_call 30; refine q_same (within_f _ _ _ _ ?_); omega) | (go_at_call 28; refine q_same (l6In_t _ _ _ _ ?_); omega) | (go_at_call 28; refine q_same (l6In_f _ _ _ _ ?_); omega))))
              refine wpQuiet_nil ?_
              intro wx hbx
              go_wp2_with fail
              go_meet
              exact ⟨by rw [tb_yes (.inr (.inr (.inl h3)))], hbc.trans (hbx.mono hbc.size)⟩
          · refine region_q (by kernel_rfl) (by kernel_rfl) ?_
            repeat (go_big_quiet_step ((first | (go_at_call 30; refine q_same (within_t _ _ _ _ ?_); omega) | (go_at_call 30; refine q_same (within_f _ _ _ _ ?_); omega) | (go_at_call 28; refine q_same (l6In_t _ _ _ _ ?_); omega) | (go_at_call 28; refine q_same (l6In_f _ _ _ _ ?_); omega))))
            refine wpQuiet_nil ?_
            intro wx hbx
            go_wp2_with fail
            go_meet
            exact ⟨by rw [tb_yes (.inr (.inl h2))], hbc.trans (hbx.mono hbc.size)⟩
        · refine region_q (by kernel_rfl) (by kernel_rfl) ?_
          repeat (go_big_quiet_step ((first | (go_at_call 30; refine q_same (within_t _ _ _ _ ?_); omega) | (go_at_call 30; refine q_same (within_f _ _ _ _ ?_); omega) | (go_at_call 28; refine q_same (l6In_t _ _ _ _ ?_); omega) | (go_at_call 28; refine q_same (l6In_f _ _ _ _ ?_); omega))))
          refine wpQuiet_nil ?_
          intro wx hbx
          go_wp2_with fail
          go_meet
          exact ⟨by rw [tb_yes (.inl h1)], hbc.trans (hbx.mono hbc.size)⟩
      case rest =>
        obtain ⟨rfl, hb2⟩ := hcut
        by_cases hbad : badAt cs k c
        · rw [tb_yes hbad]
          have HBAD := hide hbad
          clear hbad
          go_wp2
          go_ret
          exact ⟨ret_bool (tb_no fun h => h k c HC.out HBAD.out).symm, hb2⟩
        · rw [tb_no hbad]
          have HBAD := hide hbad
          clear hbad
          go_wp2
          go_roundg (gk - 1)
          case measure => omega
          case rel =>
            refine ⟨k + 1, by omega, by go_num, hb2, hide (fun i c' hi hc' => ?_)⟩
            rcases Nat.lt_succ_iff_lt_or_eq.1 hi with h | h
            · exact HV.out i c' h hc'
            · subst h; rw [HC.out] at hc'; cases hc'; exact HBAD.out
    · go_wp2
      go_ret
      exact ⟨ret_bool (tb_yes fun i c hc => HV.out i c (by have := get_lt hc; omega) hc).symm, hbe⟩

set_option maxHeartbeats 1000000 in
theorem specValid_any (v : Value) (cs : List Cand) (w : World) (hv : SlR cc 3 w w.heap.size v cs) (hn : cs.length ≤ 1048576) :
    Calls Try.prog 14 #[v] w fun e w' => e = .returned (.bool (validB cs)) ∧ Below w.heap.size w w' := by
  obtain ⟨A, cap, rfl, hc, hr⟩ := hv
  go_enter Try.func14, Try.ntmps14
  go_wp2
  go_loopg [3] (cs.length) (fun g i wr => ∃ k : Nat, k + g = cs.length ∧ i = .int .i64 k ∧ Below w.heap.size w wr ∧ Hid (∀ i c, i < k → cs[i]? = some c → ¬ badAt cs i c))
  case atStart => exact ⟨0, by omega, rfl, Below.refl _ _, hide (fun i c h => by omega)⟩
  case round =>
    obtain ⟨k, hk, rfl, hbe, HV⟩ := hrel
    by_cases hlt : k < cs.length
    · obtain ⟨b, off, rfl, hb, hcell⟩ := hr (by omega)
      obtain ⟨c, hck⟩ := get_some hlt
      obtain ⟨g1, g2, g3⟩ := candAt (hcell.keep (w' := wr) fun p hp => hbe.cell (by omega)) hck
      have HC := hide hck
      clear hck
      go_upto_region 5 with fail
      obtain ⟨wc, hwc⟩ : ∃ wc, wc = wr.alloc (Obj.cells #[Value.int IntKind.i64 c.node, Value.int IntKind.i64 c.prio, Value.int IntKind.i64 c.claim] 34) := ⟨_, rfl⟩
      have hbc : Below w.heap.size w wc := by rw [hwc]; exact hbe.alloc hbe.size _
      have f1 : wc.cell? ⟨wr.heap.size, 0, none⟩ = some (.int .i64 c.node) := by rw [hwc]; simp [go_sem]
      have f2 : wc.cell? ⟨wr.heap.size, 1, none⟩ = some (.int .i64 c.prio) := by rw [hwc]; simp [go_sem]
      have f3 : wc.cell? ⟨wr.heap.size, 2, none⟩ = some (.int .i64 c.claim) := by rw [hwc]; simp [go_sem]
      rw [← hwc]
      clear hwc
      go_cut [45] (fun s wx => s = .bool (tb (badAt cs k c)) ∧ Below w.heap.size w wx)
      case first =>
        have e1 := fun x => wext_cell wc x f1
        have e2 := fun x => wext_cell wc x f2
        have e3 := fun x => wext_cell wc x f3
        by_cases h1 : 0 ≤ c.node ∧ c.node ≤ 7
        · by_cases h2 : 0 ≤ c.prio ∧ c.prio ≤ 9
          · by_cases h3 : 0 ≤ c.claim ∧ c.claim ≤ 2
            · by_cases h4 : 0 < k
              · obtain ⟨p, hp⟩ := get_some (l := cs) (i := k - 1) (by omega)
                have g4 : wc.cell? ⟨b, off + (k - 1) * 3, none⟩ = some (.int .i64 p.node) := (hbc.cell (by exact hb)).trans (candAt hcell hp).1
                have e4 := fun x => wext_cell wc x g4
                have HP := hide hp
                clear hp
                by_cases h5 : c.node ≤ p.node
                · refine region_q (by kernel_rfl) (by kernel_rfl) ?_
                  repeat (go_big_quiet_step ((first | (go_at_call 30; refine q_same (within_t _ _ _ _ ?_); omega) | (go_at_call 30; refine q_same (within_f _ _ _ _ ?_); omega) | (go_at_call 28; refine q_same (l6In_t _ _ _ _ ?_); omega) | (go_at_call 28; refine q_same (l6In_f _ _ _ _ ?_); omega))))
                  refine wpQuiet_nil ?_
                  intro wx hbx
                  go_wp2_with fail
                  go_meet
                  exact ⟨by rw [tb_yes (.inr (.inr (.inr ⟨p, h4, HP.out, h5⟩)))], hbc.trans (hbx.mono hbc.size)⟩
                · refine region_q (by kernel_rfl) (by kernel_rfl) ?_
                  repeat (go_big_quiet_step ((first | (go_at_call 30; refine q_same (within_t _ _ _ _ ?_); omega) | (go_at_call 30; refine q_same (within_f _ _ _ _ ?_); omega) | (go_at_call 28; refine q_same (l6In_t _ _ _ _ ?_); omega) | (go_at_call 28; refine q_same (l6In_f _ _ _ _ ?_); omega))))
                  refine wpQuiet_nil ?_
                  intro wx hbx
                  go_wp2_with fail
                  go_meet
                  refine ⟨?_, hbc.trans (hbx.mono hbc.size)⟩
                  rw [tb_no]
                  rintro (h | h | h | ⟨q, _, hq, h⟩)
                  · exact h h1
                  · exact h h2
                  · exact h h3
                  · rw [HP.out] at hq; cases hq; omega
              · refine region_q (by kernel_rfl) (by kernel_rfl) ?_
                repeat (go_big_quiet_step ((first | (go_at_call 30; refine q_same (within_t _ _ _ _ ?_); omega) | (go_at_call 30; refine q_same (within_f _ _ _ _ ?_); omega) | (go_at_call 28; refine q_same (l6In_t _ _ _ _ ?_); omega) | (go_at_call 28; refine q_same (l6In_f _ _ _ _ ?_); omega))))
                refine wpQuiet_nil ?_
                intro wx hbx
                go_wp2_with fail
                go_meet
                refine ⟨?_, hbc.trans (hbx.mono hbc.size)⟩
                rw [tb_no]
                rintro (h | h | h | ⟨q, h, _⟩)
                · exact h h1
                · exact h h2
                · exact h h3
                · exact h4 h
            · refine region_q (by kernel_rfl) (by kernel_rfl) ?_
              repeat (go_big_quiet_step ((first | (go_at_call 30; refine q_same (within_t _ _ _ _ ?_); omega) | (go_at_call 30; refine q_same (within_f _ _ _ _ ?_); omega) | (go_at_call 28; refine q_same (l6In_t _ _ _ _ ?_); omega) | (go_at_call 28; refine q_same (l6In_f _ _ _ _ ?_); omega))))
              refine wpQuiet_nil ?_
              intro wx hbx
              go_wp2_with fail
              go_meet
              exact ⟨by rw [tb_yes (.inr (.inr (.inl h3)))], hbc.trans (hbx.mono hbc.size)⟩
          · refine region_q (by kernel_rfl) (by kernel_rfl) ?_
            repeat (go_big_quiet_step ((first | (go_at_call 30; refine q_same (within_t _ _ _ _ ?_); omega) | (go_at_call 30; refine q_same (within_f _ _ _ _ ?_); omega) | (go_at_call 28; refine q_same (l6In_t _ _ _ _ ?_); omega) | (go_at_call 28; refine q_same (l6In_f _ _ _ _ ?_); omega))))
            refine wpQuiet_nil ?_
            intro wx hbx
            go_wp2_with fail
            go_meet
            exact ⟨by rw [tb_yes (.inr (.inl h2))], hbc.trans (hbx.mono hbc.size)⟩
        · refine region_q (by kernel_rfl) (by kernel_rfl) ?_
          repeat (go_big_quiet_step ((first | (go_at_call 30; refine q_same (within_t _ _ _ _ ?_); omega) | (go_at_call 30; refine q_same (within_f _ _ _ _ ?_); omega) | (go_at_call 28; refine q_same (l6In_t _ _ _ _ ?_); omega) | (go_at_call 28; refine q_same (l6In_f _ _ _ _ ?_); omega))))
          refine wpQuiet_nil ?_
          intro wx hbx
          go_wp2_with fail
          go_meet
          exact ⟨by rw [tb_yes (.inl h1)], hbc.trans (hbx.mono hbc.size)⟩
      case rest =>
        obtain ⟨rfl, hb2⟩ := hcut
        by_cases hbad : badAt cs k c
        · rw [tb_yes hbad]
          have HBAD := hide hbad
          clear hbad
          go_wp2
          go_ret
          exact ⟨ret_bool (tb_no fun h => h k c HC.out HBAD.out).symm, hb2⟩
        · rw [tb_no hbad]
          have HBAD := hide hbad
          clear hbad
          go_wp2
          go_roundg (gk - 1)
          case measure => omega
          case rel =>
            refine ⟨k + 1, by omega, by go_num, hb2, hide (fun i c' hi hc' => ?_)⟩
            rcases Nat.lt_succ_iff_lt_or_eq.1 hi with h | h
            · exact HV.out i c' h hc'
            · subst h; rw [HC.out] at hc'; cases hc'; exact HBAD.out
    · go_wp2
      go_ret
      exact ⟨ret_bool (tb_yes fun i c hc => HV.out i c (by have := get_lt hc; omega) hc).symm, hbe⟩

end Go.Proofs.Ytkldfjlgphapeaa
