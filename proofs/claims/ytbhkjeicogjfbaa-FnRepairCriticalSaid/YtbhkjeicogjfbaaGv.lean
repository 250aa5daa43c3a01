/- GraphValid of the program and of the reference. Conditions: at most 1048576 links. -/
import Derived.Test.YtbhkjeicogjfbaaLink
namespace Go.Proofs.Ytbhkjeicogjfbaa
open Go.RowKit

theorem l6In_any (a b c : Int) (w : World) :
    Calls Try.prog 73 #[.int .i64 a, .int .i64 b, .int .i64 c] w fun e w' => e = .returned (.bool (tb (b ≤ a ∧ a ≤ c))) ∧ w' = w := by
  by_cases h : b ≤ a ∧ a ≤ c
  · rw [tb_yes h]; exact l6In_t a b c w h
  · rw [tb_no h]; exact l6In_f a b c w h
theorem within_any (a b c : Int) (w : World) :
    Calls Try.prog 92 #[.int .i64 a, .int .i64 b, .int .i64 c] w fun e w' => e = .returned (.bool (tb (b ≤ a ∧ a ≤ c))) ∧ w' = w := by
  by_cases h : b ≤ a ∧ a ≤ c
  · rw [tb_yes h]; exact within_t a b c w h
  · rw [tb_no h]; exact within_f a b c w h
/-- The link at place i is out of order. -/
def pBad (g : Gr) (i : Nat) (l : Lk) : Prop := ∃ p, 0 < i ∧ g.ls[i-1]? = some p ∧ (l.a < p.a ∨ (p.a = l.a ∧ l.b ≤ p.b))
set_option maxRecDepth 100000 in
set_option maxHeartbeats 1600000 in
theorem graphValid_any (v : Value) (g : Gr) (w : World) (hv : GrR w w.heap.size v g) (hn : g.ls.length ≤ 1048576) :
    Calls Try.prog 83 #[v] w fun e w' => e = .returned (.bool (tb (GV g))) ∧ Below w.heap.size w w' := by
  obtain ⟨A, cap, rfl, hc, hr⟩ := hv.form
  clear hv
  obtain ⟨wb, hwb⟩ : ∃ wb, wb = w.alloc (Obj.cells #[.int .i64 g.n, .slice A g.ls.length cap] 25) := ⟨_, rfl⟩
  have hbw : Below w.heap.size w wb := by rw [hwb]; exact below1 _ _
  have HB : Hid (Blk wb w.heap.size 25 #[.int .i64 g.n, .slice A g.ls.length cap]) := hide (by rw [hwb]; exact Blk.new _ _ _)
  by_cases h1 : 1 ≤ g.n ∧ g.n ≤ 8
  · by_cases h2 : g.ls.length ≤ 14
    · go_enter Try.func83, Try.ntmps83
      go_wp2_with fail
      rw [← hwb]
      clear hwb
      refine (within_t _ _ _ _ h1).mono ?_
      rintro e wb ⟨rfl, rfl⟩
      have c0 := HB.out.cell 0
      have c1 := HB.out.cell 1
      obtain ⟨h1a, h1b⟩ := h1
      go_wp2
      clear c0 c1
      go_loopg [18] (g.ls.length) (fun gg iv wr => ∃ k : Nat, k + gg = g.ls.length ∧ iv = .int .i64 k ∧ Below wb.heap.size wb wr ∧ Hid (∀ (i : Nat) (l : Lk), i < k → g.ls[i]? = some l → ¬ lBad g i l))
      case atStart => exact ⟨0, by omega, rfl, Below.refl _ _, hide fun i l h => by omega⟩
      case round =>
        obtain ⟨k, hk, rfl, hbe, HV⟩ := hrel
        by_cases hlt : k < g.ls.length
        · obtain ⟨b, off, rfl, hb, hcell⟩ := hr (by omega)
          obtain ⟨l, hck⟩ := get_some hlt
          have hbwe := hbw.trans (hbe.mono hbw.size)
          obtain ⟨g1, g2, g3⟩ := linkAt (hcell.keep (w' := wr) fun p hp => hbwe.cell (by omega)) hck
          have hBr := HB.out.up hbe
          have c0 := hBr.cell 0
          have c1 := hBr.cell 1
          clear hBr
          go_upto_region 6 with fail
          obtain ⟨wd, hwd⟩ : ∃ wd, wd = wr.alloc (Obj.cells #[Value.int IntKind.i64 l.a, Value.int IntKind.i64 l.b, Value.int IntKind.i64 l.c] 64) := ⟨_, rfl⟩
          have hbd : Below wb.heap.size wb wd := by rw [hwd]; exact hbe.alloc hbe.size _
          have HLd : Hid (Blk wd wr.heap.size 64 #[.int .i64 l.a, .int .i64 l.b, .int .i64 l.c]) := hide (by rw [hwd]; exact Blk.new _ _ _)
          rw [← hwd]
          clear hwd
          have hbwd := hbw.trans (hbd.mono hbw.size)
          have f1 := HLd.out.cell 0
          have f2 := HLd.out.cell 1
          have f3 := HLd.out.cell 2
          have d0 := (HB.out.up hbd).cell 0
          have d1 := (HB.out.up hbd).cell 1
          clear c0 c1 g1 g2 g3
          by_cases p1 : l.a < 0
          · go_wp2
            go_ret
            exact ⟨ret_bool (tb_no fun h => h.links k l hck (.inl fun h => by omega)).symm, hbwd⟩
          · by_cases p2 : l.b ≤ l.a
            · go_wp2
              go_ret
              exact ⟨ret_bool (tb_no fun h => h.links k l hck (.inl fun h => by omega)).symm, hbwd⟩
            · by_cases p3 : g.n ≤ l.b
              · go_wp2
                go_ret
                exact ⟨ret_bool (tb_no fun h => h.links k l hck (.inl fun h => by omega)).symm, hbwd⟩
              · by_cases p4 : 1 ≤ l.c ∧ l.c ≤ 20
                · have HOK : Hid (¬ ¬ (0 ≤ l.a ∧ l.a < l.b ∧ l.b < g.n ∧ 1 ≤ l.c ∧ l.c ≤ 20)) := hide (fun h => h (by omega))
                  go_upto_region 8 with (go_at_call 92; refine (within_t _ _ _ _ p4).mono ?_; rintro e wd ⟨rfl, rfl⟩)
                  have e0 := fun x => wext_cell wd x d0
                  have e1 := fun x => wext_cell wd x d1
                  have e2 := fun x => wext_cell wd x f1
                  have e3 := fun x => wext_cell wd x f2
                  have e4 := fun x => wext_cell wd x f3
                  have HC := hide hck
                  clear hck
                  by_cases h0 : 0 < k
                  · obtain ⟨p, hp⟩ := get_some (l := g.ls) (i := k - 1) (by omega)
                    obtain ⟨q1, q2, q3⟩ := linkAt (hcell.keep (w' := wd) fun p hp => hbwd.cell (by omega)) hp
                    have e5 := fun x => wext_cell wd x q1
                    have e6 := fun x => wext_cell wd x q2
                    have HP := hide hp
                    clear hp
                    by_cases h5 : l.a < p.a
                    · have HB5 : Hid (pBad g k l) := hide ⟨p, h0, HP.out, .inl h5⟩
                      refine region_q (by kernel_rfl) (by kernel_rfl) ?_
                      repeat (go_big_quiet_step ((first | (fail))))
                      refine wpQuiet_nil ?_
                      intro wx hbx
                      clear e0 e1 e2 e3 e4
                      have hbf := hbwd.trans (hbx.mono hbwd.size)
                      go_wp2
                      go_ret
                      exact ⟨ret_bool (tb_no fun h => h.links k l HC.out (.inr HB5.out)).symm, hbf⟩
                    · by_cases h6 : p.a = l.a
                      · have p6 : (p.a == l.a) = true := by simp [h6]
                        by_cases h7 : l.b ≤ p.b
                        · have HB5 : Hid (pBad g k l) := hide ⟨p, h0, HP.out, .inr ⟨h6, h7⟩⟩
                          clear h6
                          refine region_q (by kernel_rfl) (by kernel_rfl) ?_
                          repeat (go_big_quiet_step ((first | (fail))))
                          refine wpQuiet_nil ?_
                          intro wx hbx
                          clear e0 e1 e2 e3 e4
                          have hbf := hbwd.trans (hbx.mono hbwd.size)
                          go_wp2
                          go_ret
                          exact ⟨ret_bool (tb_no fun h => h.links k l HC.out (.inr HB5.out)).symm, hbf⟩
                        · have HB5 : Hid (¬ pBad g k l) := hide (by
                            rintro ⟨q, _, hq, h⟩
                            rw [HP.out] at hq; cases hq
                            rcases h with h | ⟨_, h⟩ <;> omega)
                          clear h6
                          refine region_q (by kernel_rfl) (by kernel_rfl) ?_
                          repeat (go_big_quiet_step ((first | (fail))))
                          refine wpQuiet_nil ?_
                          intro wx hbx
                          clear e0 e1 e2 e3 e4
                          go_wp2
                          go_roundg (gk - 1)
                          case measure => omega
                          case rel =>
                            refine ⟨k + 1, by omega, by go_num, hbd.trans (hbx.mono hbd.size), hide (fun i c' hi hc' => ?_)⟩
                            rcases Nat.lt_succ_iff_lt_or_eq.1 hi with h | h
                            · exact HV.out i c' h hc'
                            · subst h; rw [HC.out] at hc'; cases hc'; exact fun h => h.elim HOK.out HB5.out
                      · have p6 : (p.a == l.a) = false := by simp [h6]
                        have HB5 : Hid (¬ pBad g k l) := hide (by
                          rintro ⟨q, _, hq, h⟩
                          rw [HP.out] at hq; cases hq
                          rcases h with h | ⟨h, _⟩ <;> omega)
                        clear h6
                        refine region_q (by kernel_rfl) (by kernel_rfl) ?_
                        repeat (go_big_quiet_step ((first | (fail))))
                        refine wpQuiet_nil ?_
                        intro wx hbx
                        clear e0 e1 e2 e3 e4
                        go_wp2
                        go_roundg (gk - 1)
                        case measure => omega
                        case rel =>
                          refine ⟨k + 1, by omega, by go_num, hbd.trans (hbx.mono hbd.size), hide (fun i c' hi hc' => ?_)⟩
                          rcases Nat.lt_succ_iff_lt_or_eq.1 hi with h | h
                          · exact HV.out i c' h hc'
                          · subst h; rw [HC.out] at hc'; cases hc'; exact fun h => h.elim HOK.out HB5.out
                  · have HB5 : Hid (¬ pBad g k l) := hide (by rintro ⟨q, h, _⟩; exact h0 h)
                    refine region_q (by kernel_rfl) (by kernel_rfl) ?_
                    repeat (go_big_quiet_step ((first | (fail))))
                    refine wpQuiet_nil ?_
                    intro wx hbx
                    clear e0 e1 e2 e3 e4
                    go_wp2
                    go_roundg (gk - 1)
                    case measure => omega
                    case rel =>
                      refine ⟨k + 1, by omega, by go_num, hbd.trans (hbx.mono hbd.size), hide (fun i c' hi hc' => ?_)⟩
                      rcases Nat.lt_succ_iff_lt_or_eq.1 hi with h | h
                      · exact HV.out i c' h hc'
                      · subst h; rw [HC.out] at hc'; cases hc'; exact fun h => h.elim HOK.out HB5.out
                · have HBAD : Hid (¬ GV g) := hide (fun h => h.links k l hck (.inl fun h => by omega))
                  clear hck
                  go_wp2_with (go_at_call 92; refine (within_f _ _ _ _ p4).mono ?_; rintro e w1 ⟨rfl, rfl⟩)
                  go_ret
                  exact ⟨ret_bool (tb_no HBAD.out).symm, hbwd⟩
        · have hbf := hbw.trans (hbe.mono hbw.size)
          go_wp2
          go_ret
          exact ⟨ret_bool (tb_yes ⟨⟨h1a, h1b⟩, h2, fun i l hl => HV.out i l (by have := get_lt hl; omega) hl⟩).symm, hbf⟩
    · have HNO : Hid (¬ GV g) := hide fun h => h2 h.len
      go_enter Try.func83, Try.ntmps83
      go_wp2_with fail
      rw [← hwb]
      clear hwb
      refine (within_t _ _ _ _ h1).mono ?_
      rintro e wb ⟨rfl, rfl⟩
      have c1 := HB.out.cell 1
      go_wp2
      go_ret
      exact ⟨ret_bool (tb_no HNO.out).symm, hbw⟩
  · have HNO : Hid (¬ GV g) := hide fun h => h1 h.n
    go_enter Try.func83, Try.ntmps83
    go_wp2_with fail
    rw [← hwb]
    clear hwb
    refine (within_f _ _ _ _ h1).mono ?_
    rintro e wb ⟨rfl, rfl⟩
    go_wp2
    go_ret
    exact ⟨ret_bool (tb_no HNO.out).symm, hbw⟩
set_option maxRecDepth 100000 in
set_option maxHeartbeats 3200000 in
theorem specValid_any (v : Value) (g : Gr) (w : World) (hv : GrR w w.heap.size v g) (hn : g.ls.length ≤ 1048576) :
    Calls Try.prog 23 #[v] w fun e w' => e = .returned (.bool (tb (GV g))) ∧ Below w.heap.size w w' := by
  obtain ⟨A, cap, rfl, hc, hr⟩ := hv.form
  clear hv
  obtain ⟨wb, hwb⟩ : ∃ wb, wb = w.alloc (Obj.cells #[.int .i64 g.n, .slice A g.ls.length cap] 25) := ⟨_, rfl⟩
  have hbw : Below w.heap.size w wb := by rw [hwb]; exact below1 _ _
  have HB : Hid (Blk wb w.heap.size 25 #[.int .i64 g.n, .slice A g.ls.length cap]) := hide (by rw [hwb]; exact Blk.new _ _ _)
  by_cases h1 : 1 ≤ g.n ∧ g.n ≤ 8
  · have H1 := hide h1
    obtain ⟨h1a, h1b⟩ := h1
    go_enter Try.func23, Try.ntmps23
    go_wp2
    rw [← hwb]
    clear hwb
    go_loopg [3] (g.ls.length) (fun gg iv wr => ∃ k : Nat, k + gg = g.ls.length ∧ iv = .int .i64 k ∧ Below wb.heap.size wb wr ∧ Hid (∀ (i : Nat) (l : Lk), i < k → g.ls[i]? = some l → ¬ lBad g i l))
    case atStart => exact ⟨0, by omega, rfl, Below.refl _ _, hide fun i l h => by omega⟩
    case round =>
      obtain ⟨k, hk, rfl, hbe, HV⟩ := hrel
      by_cases hlt : k < g.ls.length
      · obtain ⟨b, off, rfl, hb, hcell⟩ := hr (by omega)
        obtain ⟨l, hck⟩ := get_some hlt
        have hbwe := hbw.trans (hbe.mono hbw.size)
        obtain ⟨g1, g2, g3⟩ := linkAt (hcell.keep (w' := wr) fun p hp => hbwe.cell (by omega)) hck
        have hBr := HB.out.up hbe
        have c0 := hBr.cell 0
        have c1 := hBr.cell 1
        clear hBr
        go_upto_region 5 with fail
        obtain ⟨wd, hwd⟩ : ∃ wd, wd = wr.alloc (Obj.cells #[Value.int IntKind.i64 l.a, Value.int IntKind.i64 l.b, Value.int IntKind.i64 l.c] 64) := ⟨_, rfl⟩
        have hbd : Below wb.heap.size wb wd := by rw [hwd]; exact hbe.alloc hbe.size _
        have HLd : Hid (Blk wd wr.heap.size 64 #[.int .i64 l.a, .int .i64 l.b, .int .i64 l.c]) := hide (by rw [hwd]; exact Blk.new _ _ _)
        rw [← hwd]
        clear hwd
        have hbwd := hbw.trans (hbd.mono hbw.size)
        have f1 := HLd.out.cell 0
        have f2 := HLd.out.cell 1
        have f3 := HLd.out.cell 2
        have d0 := (HB.out.up hbd).cell 0
        have d1 := (HB.out.up hbd).cell 1
        clear c0 c1 g1 g2 g3
        by_cases p1 : 0 ≤ l.a ∧ l.a ≤ g.n - 1
        · obtain ⟨p1a, p1b⟩ := p1
          by_cases p2 : l.a + 1 ≤ l.b ∧ l.b ≤ g.n - 1
          · by_cases p4 : 1 ≤ l.c ∧ l.c ≤ 20
            · have HOK : Hid (¬ ¬ (0 ≤ l.a ∧ l.a < l.b ∧ l.b < g.n ∧ 1 ≤ l.c ∧ l.c ≤ 20)) := hide (fun h => h (by omega))
              go_wp2_with fail
              refine (l6In_t _ _ _ _ ⟨p1a, p1b⟩).mono ?_
              rintro e wd ⟨rfl, rfl⟩
              go_wp2_with fail
              refine (l6In_t _ _ _ _ p2).mono ?_
              rintro e wd ⟨rfl, rfl⟩
              go_wp2_with fail
              refine (l6In_t _ _ _ _ p4).mono ?_
              rintro e wd ⟨rfl, rfl⟩
              go_upto_region 7 with fail
              have e0 := fun x => wext_cell wd x d0
              have e1 := fun x => wext_cell wd x d1
              have e2 := fun x => wext_cell wd x f1
              have e3 := fun x => wext_cell wd x f2
              have e4 := fun x => wext_cell wd x f3
              have HC := hide hck
              clear hck
              by_cases h0 : 0 < k
              · obtain ⟨p, hp⟩ := get_some (l := g.ls) (i := k - 1) (by omega)
                obtain ⟨q1, q2, q3⟩ := linkAt (hcell.keep (w' := wd) fun p hp => hbwd.cell (by omega)) hp
                have e5 := fun x => wext_cell wd x q1
                have e6 := fun x => wext_cell wd x q2
                have HP := hide hp
                clear hp
                by_cases h5 : l.a < p.a
                · have HB5 : Hid (pBad g k l) := hide ⟨p, h0, HP.out, .inl h5⟩
                  refine region_q (by kernel_rfl) (by kernel_rfl) ?_
                  repeat (go_big_quiet_step ((first | (fail))))
                  refine wpQuiet_nil ?_
                  intro wx hbx
                  clear e0 e1 e2 e3 e4
                  have hbf := hbwd.trans (hbx.mono hbwd.size)
                  go_wp2
                  go_ret
                  exact ⟨ret_bool (tb_no fun h => h.links k l HC.out (.inr HB5.out)).symm, hbf⟩
                · by_cases h6 : p.a = l.a
                  · have p6 : (p.a == l.a) = true := by simp [h6]
                    by_cases h7 : l.b ≤ p.b
                    · have HB5 : Hid (pBad g k l) := hide ⟨p, h0, HP.out, .inr ⟨h6, h7⟩⟩
                      clear h6
                      refine region_q (by kernel_rfl) (by kernel_rfl) ?_
                      repeat (go_big_quiet_step ((first | (fail))))
                      refine wpQuiet_nil ?_
                      intro wx hbx
                      clear e0 e1 e2 e3 e4
                      have hbf := hbwd.trans (hbx.mono hbwd.size)
                      go_wp2
                      go_ret
                      exact ⟨ret_bool (tb_no fun h => h.links k l HC.out (.inr HB5.out)).symm, hbf⟩
                    · have HB5 : Hid (¬ pBad g k l) := hide (by
                        rintro ⟨q, _, hq, h⟩
                        rw [HP.out] at hq; cases hq
                        rcases h with h | ⟨_, h⟩ <;> omega)
                      clear h6
                      refine region_q (by kernel_rfl) (by kernel_rfl) ?_
                      repeat (go_big_quiet_step ((first | (fail))))
                      refine wpQuiet_nil ?_
                      intro wx hbx
                      clear e0 e1 e2 e3 e4
                      go_wp2
                      go_roundg (gk - 1)
                      case measure => omega
                      case rel =>
                        refine ⟨k + 1, by omega, by go_num, hbd.trans (hbx.mono hbd.size), hide (fun i c' hi hc' => ?_)⟩
                        rcases Nat.lt_succ_iff_lt_or_eq.1 hi with h | h
                        · exact HV.out i c' h hc'
                        · subst h; rw [HC.out] at hc'; cases hc'; exact fun h => h.elim HOK.out HB5.out
                  · have p6 : (p.a == l.a) = false := by simp [h6]
                    have HB5 : Hid (¬ pBad g k l) := hide (by
                      rintro ⟨q, _, hq, h⟩
                      rw [HP.out] at hq; cases hq
                      rcases h with h | ⟨h, _⟩ <;> omega)
                    clear h6
                    refine region_q (by kernel_rfl) (by kernel_rfl) ?_
                    repeat (go_big_quiet_step ((first | (fail))))
                    refine wpQuiet_nil ?_
                    intro wx hbx
                    clear e0 e1 e2 e3 e4
                    go_wp2
                    go_roundg (gk - 1)
                    case measure => omega
                    case rel =>
                      refine ⟨k + 1, by omega, by go_num, hbd.trans (hbx.mono hbd.size), hide (fun i c' hi hc' => ?_)⟩
                      rcases Nat.lt_succ_iff_lt_or_eq.1 hi with h | h
                      · exact HV.out i c' h hc'
                      · subst h; rw [HC.out] at hc'; cases hc'; exact fun h => h.elim HOK.out HB5.out
              · have HB5 : Hid (¬ pBad g k l) := hide (by rintro ⟨q, h, _⟩; exact h0 h)
                refine region_q (by kernel_rfl) (by kernel_rfl) ?_
                repeat (go_big_quiet_step ((first | (fail))))
                refine wpQuiet_nil ?_
                intro wx hbx
                clear e0 e1 e2 e3 e4
                go_wp2
                go_roundg (gk - 1)
                case measure => omega
                case rel =>
                  refine ⟨k + 1, by omega, by go_num, hbd.trans (hbx.mono hbd.size), hide (fun i c' hi hc' => ?_)⟩
                  rcases Nat.lt_succ_iff_lt_or_eq.1 hi with h | h
                  · exact HV.out i c' h hc'
                  · subst h; rw [HC.out] at hc'; cases hc'; exact fun h => h.elim HOK.out HB5.out
            · have HBAD : Hid (¬ GV g) := hide (fun h => h.links k l hck (.inl fun h => by omega))
              clear hck
              go_wp2_with fail
              refine (l6In_t _ _ _ _ ⟨p1a, p1b⟩).mono ?_
              rintro e wd ⟨rfl, rfl⟩
              go_wp2_with fail
              refine (l6In_t _ _ _ _ p2).mono ?_
              rintro e wd ⟨rfl, rfl⟩
              go_wp2_with fail
              refine (l6In_f _ _ _ _ p4).mono ?_
              rintro e wd ⟨rfl, rfl⟩
              go_wp2
              go_ret
              exact ⟨ret_bool (tb_no HBAD.out).symm, hbwd⟩
          · have HBAD : Hid (¬ GV g) := hide (fun h => h.links k l hck (.inl fun h => by omega))
            clear hck
            go_wp2_with fail
            refine (l6In_t _ _ _ _ ⟨p1a, p1b⟩).mono ?_
            rintro e wd ⟨rfl, rfl⟩
            go_wp2_with fail
            refine (l6In_f _ _ _ _ p2).mono ?_
            rintro e wd ⟨rfl, rfl⟩
            go_wp2
            go_ret
            exact ⟨ret_bool (tb_no HBAD.out).symm, hbwd⟩
        · have HBAD : Hid (¬ GV g) := hide (fun h => h.links k l hck (.inl fun h => by omega))
          clear hck
          go_wp2_with fail
          refine (l6In_f _ _ _ _ p1).mono ?_
          rintro e wd ⟨rfl, rfl⟩
          go_wp2
          go_ret
          exact ⟨ret_bool (tb_no HBAD.out).symm, hbwd⟩
      · have hbf := hbw.trans (hbe.mono hbw.size)
        have HBr := hide (HB.out.up hbe)
        have c0 := HBr.out.cell 0
        have c1 := HBr.out.cell 1
        by_cases h2 : g.ls.length ≤ 14
        · have hd : decide ((g.ls.length : Int) ≤ 14) = true := decide_eq_true (by omega)
          go_wp2_with fail
          refine (l6In_t _ _ _ _ H1.out).mono ?_
          rintro e wr ⟨rfl, rfl⟩
          go_wp2
          go_ret
          exact ⟨ret_bool (tb_yes ⟨H1.out, h2, fun i l hl => HV.out i l (by have := get_lt hl; omega) hl⟩).symm, hbf⟩
        · have HNO : Hid (¬ GV g) := hide fun h => h2 h.len
          have hd : decide ((g.ls.length : Int) ≤ 14) = false := decide_eq_false (by omega)
          go_wp2_with fail
          refine (l6In_t _ _ _ _ H1.out).mono ?_
          rintro e wr ⟨rfl, rfl⟩
          go_wp2
          go_ret
          exact ⟨ret_bool (tb_no HNO.out).symm, hbf⟩
  · have hno : tb (GV g) = false := tb_no fun h => h1 h.n
    rw [hno]
    have H1 := hide h1
    clear hno h1
    go_enter Try.func23, Try.ntmps23
    go_wp2
    rw [← hwb]
    clear hwb
    go_loopg [3] (g.ls.length) (fun gg iv wr => ∃ k : Nat, k + gg = g.ls.length ∧ iv = .int .i64 k ∧ Below wb.heap.size wb wr)
    case atStart => exact ⟨0, by omega, rfl, Below.refl _ _⟩
    case round =>
      obtain ⟨k, hk, rfl, hbe⟩ := hrel
      by_cases hlt : k < g.ls.length
      · obtain ⟨b, off, rfl, hb, hcell⟩ := hr (by omega)
        obtain ⟨l, hck⟩ := get_some hlt
        have hbwe := hbw.trans (hbe.mono hbw.size)
        obtain ⟨g1, g2, g3⟩ := linkAt (hcell.keep (w' := wr) fun p hp => hbwe.cell (by omega)) hck
        have hBr := HB.out.up hbe
        have c0 := hBr.cell 0
        have c1 := hBr.cell 1
        clear hBr
        go_upto_region 5 with fail
        obtain ⟨wd, hwd⟩ : ∃ wd, wd = wr.alloc (Obj.cells #[Value.int IntKind.i64 l.a, Value.int IntKind.i64 l.b, Value.int IntKind.i64 l.c] 64) := ⟨_, rfl⟩
        have hbd : Below wb.heap.size wb wd := by rw [hwd]; exact hbe.alloc hbe.size _
        have HLd : Hid (Blk wd wr.heap.size 64 #[.int .i64 l.a, .int .i64 l.b, .int .i64 l.c]) := hide (by rw [hwd]; exact Blk.new _ _ _)
        rw [← hwd]
        clear hwd
        have hbwd := hbw.trans (hbd.mono hbw.size)
        have f1 := HLd.out.cell 0
        have f2 := HLd.out.cell 1
        have f3 := HLd.out.cell 2
        have d0 := (HB.out.up hbd).cell 0
        have d1 := (HB.out.up hbd).cell 1
        clear c0 c1 g1 g2 g3
        go_wp2_with fail
        refine (l6In_any _ _ _ _).mono ?_
        rintro e wd ⟨rfl, rfl⟩
        generalize tb _ = b1
        cases b1 with
        | false =>
          go_wp2
          go_ret
          exact ⟨rfl, hbwd⟩
        | true =>
          go_wp2_with fail
          refine (l6In_any _ _ _ _).mono ?_
          rintro e wd ⟨rfl, rfl⟩
          generalize tb _ = b2
          cases b2 with
          | false =>
            go_wp2
            go_ret
            exact ⟨rfl, hbwd⟩
          | true =>
            go_wp2_with fail
            refine (l6In_any _ _ _ _).mono ?_
            rintro e wd ⟨rfl, rfl⟩
            generalize tb _ = b3
            cases b3 with
            | false =>
              go_wp2
              go_ret
              exact ⟨rfl, hbwd⟩
            | true =>
              go_upto_region 7 with fail
              have e0 := fun x => wext_cell wd x d0
              have e1 := fun x => wext_cell wd x d1
              have e2 := fun x => wext_cell wd x f1
              have e3 := fun x => wext_cell wd x f2
              have e4 := fun x => wext_cell wd x f3
              have HC := hide hck
              clear hck
              by_cases h0 : 0 < k
              · obtain ⟨p, hp⟩ := get_some (l := g.ls) (i := k - 1) (by omega)
                obtain ⟨q1, q2, q3⟩ := linkAt (hcell.keep (w' := wd) fun p hp => hbwd.cell (by omega)) hp
                have e5 := fun x => wext_cell wd x q1
                have e6 := fun x => wext_cell wd x q2
                have HP := hide hp
                clear hp
                by_cases h5 : l.a < p.a
                · have HB5 : Hid (pBad g k l) := hide ⟨p, h0, HP.out, .inl h5⟩
                  refine region_q (by kernel_rfl) (by kernel_rfl) ?_
                  repeat (go_big_quiet_step ((first | (fail))))
                  refine wpQuiet_nil ?_
                  intro wx hbx
                  clear e0 e1 e2 e3 e4
                  have hbf := hbwd.trans (hbx.mono hbwd.size)
                  go_wp2
                  go_ret
                  exact ⟨rfl, hbf⟩
                · by_cases h6 : p.a = l.a
                  · have p6 : (p.a == l.a) = true := by simp [h6]
                    by_cases h7 : l.b ≤ p.b
                    · have HB5 : Hid (pBad g k l) := hide ⟨p, h0, HP.out, .inr ⟨h6, h7⟩⟩
                      clear h6
                      refine region_q (by kernel_rfl) (by kernel_rfl) ?_
                      repeat (go_big_quiet_step ((first | (fail))))
                      refine wpQuiet_nil ?_
                      intro wx hbx
                      clear e0 e1 e2 e3 e4
                      have hbf := hbwd.trans (hbx.mono hbwd.size)
                      go_wp2
                      go_ret
                      exact ⟨rfl, hbf⟩
                    · have HB5 : Hid (¬ pBad g k l) := hide (by
                        rintro ⟨q, _, hq, h⟩
                        rw [HP.out] at hq; cases hq
                        rcases h with h | ⟨_, h⟩ <;> omega)
                      clear h6
                      refine region_q (by kernel_rfl) (by kernel_rfl) ?_
                      repeat (go_big_quiet_step ((first | (fail))))
                      refine wpQuiet_nil ?_
                      intro wx hbx
                      clear e0 e1 e2 e3 e4
                      go_wp2
                      go_roundg (gk - 1)
                      case measure => omega
                      case rel => exact ⟨k + 1, by omega, by go_num, hbd.trans (hbx.mono hbd.size)⟩
                  · have p6 : (p.a == l.a) = false := by simp [h6]
                    have HB5 : Hid (¬ pBad g k l) := hide (by
                      rintro ⟨q, _, hq, h⟩
                      rw [HP.out] at hq; cases hq
                      rcases h with h | ⟨h, _⟩ <;> omega)
                    clear h6
                    refine region_q (by kernel_rfl) (by kernel_rfl) ?_
                    repeat (go_big_quiet_step ((first | (fail))))
                    refine wpQuiet_nil ?_
                    intro wx hbx
                    clear e0 e1 e2 e3 e4
                    go_wp2
                    go_roundg (gk - 1)
                    case measure => omega
                    case rel => exact ⟨k + 1, by omega, by go_num, hbd.trans (hbx.mono hbd.size)⟩
              · have HB5 : Hid (¬ pBad g k l) := hide (by rintro ⟨q, h, _⟩; exact h0 h)
                refine region_q (by kernel_rfl) (by kernel_rfl) ?_
                repeat (go_big_quiet_step ((first | (fail))))
                refine wpQuiet_nil ?_
                intro wx hbx
                clear e0 e1 e2 e3 e4
                go_wp2
                go_roundg (gk - 1)
                case measure => omega
                case rel => exact ⟨k + 1, by omega, by go_num, hbd.trans (hbx.mono hbd.size)⟩
      · have hbf := hbw.trans (hbe.mono hbw.size)
        have HBr := hide (HB.out.up hbe)
        have c0 := HBr.out.cell 0
        have c1 := HBr.out.cell 1
        go_wp2_with fail
        refine (l6In_f _ _ _ _ H1.out).mono ?_
        rintro e wr ⟨rfl, rfl⟩
        go_wp2
        go_ret
        exact ⟨rfl, hbf⟩
end Go.Proofs.Ytbhkjeicogjfbaa
