/- Tables: the laws' comparison. Conditions: at most 1048576 routes and hops. -/
import Derived.Test.YtlkchocjldllgaaTabM
namespace Go.Proofs.Ytlkchocjldllgaa
open Go.RowKit

set_option maxHeartbeats 800000 in
theorem sameT_any (v v' : Value) (t u : Tab) (w : World) (hv : TbR w w.heap.size v t) (hv' : TbR w w.heap.size v' u) (hn : t.routes.length ≤ 1048576 ∧ t.hops.length ≤ 1048576) (hn' : u.routes.length ≤ 1048576 ∧ u.hops.length ≤ 1048576) :
    Calls Try.prog 37 #[v, v'] w fun e w' => e = .returned (.bool (eqB t u)) ∧ Below w.heap.size w w' := by
  obtain ⟨v1, v2, rfl, h1, h2⟩ := hv
  obtain ⟨x1, x2, rfl, y1, y2⟩ := hv'
  obtain ⟨A, cap, rfl, hc, hr⟩ := h1
  obtain ⟨A', cap', rfl, hc', hr'⟩ := y1
  obtain ⟨wb, hwb⟩ : ∃ wb, wb = (w.alloc (Obj.cells #[.slice A t.routes.length cap, v2] 30)).alloc (Obj.cells #[.slice A' u.routes.length cap', x2] 30) := ⟨_, rfl⟩
  have hbw : Below w.heap.size w wb := by rw [hwb]; exact below2 _ _ _
  have BA : Blk wb w.heap.size 30 #[.slice A t.routes.length cap, v2] := by rw [hwb]; exact (Blk.new _ _ _).alloc _
  have BB : Blk wb (w.heap.size + 1) 30 #[.slice A' u.routes.length cap', x2] := by
    have h := Blk.new (w.alloc (Obj.cells #[.slice A t.routes.length cap, v2] 30)) 30 #[.slice A' u.routes.length cap', x2]
    rw [hwb]; simpa using h
  have hn1 := hn.1
  have hn2 := hn'.1
  go_enter Try.func37, Try.ntmps37
  go_wp2_with fail
  rw [← hwb]
  clear hwb
  refine (same_any v2 x2 t.hops u.hops _ (h2.up hbw) (y2.up hbw) hn.2 hn'.2).mono ?_
  rintro e w1 ⟨rfl, hb1⟩
  have HA := hide (BA.up hb1)
  have HB := hide (BB.up hb1)
  have a0 := HA.out.cell 0
  have b0 := HB.out.cell 0
  have hb01 := hbw.trans (hb1.mono hbw.size)
  clear hb1 hbw BA BB
  by_cases hh : t.hops = u.hops
  · rw [eqB_yes hh]
    have HH := hide hh
    clear hh
    by_cases hne : t.routes.length = u.routes.length
    · have hb0 : ((t.routes.length : Int) != (u.routes.length : Int)) = false := by simp [hne]
      have HN := hide hne
      clear hne
      go_wp2
      go_loopg [5] (t.routes.length) (fun g i wr => ∃ k : Nat, k + g = t.routes.length ∧ i = .int .i64 k ∧ Below w1.heap.size w1 wr ∧ Hid (∀ i : Nat, i < k → t.routes[i]? = u.routes[i]?))
      case atStart => exact ⟨0, by omega, rfl, Below.refl _ _, hide (fun i h => by omega)⟩
      case round =>
        obtain ⟨k, hk, rfl, hbe, HV⟩ := hrel
        have hnn := HN.out
        have hA := HA.out.up hbe
        have hB := HB.out.up hbe
        have c0 := hA.cell 0
        have d0 := hB.cell 0
        clear hA hB
        by_cases hlt : k < t.routes.length
        · obtain ⟨b, off, rfl, hb, hcell⟩ := hr (by omega)
          obtain ⟨b', off', rfl, hb', hcell'⟩ := hr' (by omega)
          obtain ⟨c, hck⟩ : ∃ c, t.routes[k]? = some c := ⟨_, List.getElem?_eq_getElem hlt⟩
          obtain ⟨d, hdk⟩ : ∃ d, u.routes[k]? = some d := ⟨_, List.getElem?_eq_getElem (by omega)⟩
          have hlt' : k < u.routes.length := by omega
          have hbwe := hb01.trans (hbe.mono hb01.size)
          obtain ⟨c1, c2, c3⟩ := routeAt (hcell.keep (w' := wr) fun p hp => hbwe.cell (by omega)) hck
          obtain ⟨d1, d2, d3⟩ := routeAt (hcell'.keep (w' := wr) fun p hp => hbwe.cell (by omega)) hdk
          have HC := hide hck
          have HD := hide hdk
          have HNN := hide hnn
          clear hck hdk hnn
          go_upto_region 6 with fail
          go_cut [38] (fun s wx => s = .bool (!eqB c d) ∧ Below w1.heap.size w1 wx)
          case first =>
            have e0 := fun x => wext_cell wr x c0
            have e00 := fun x => wext_cell wr x d0
            have e1 := fun x => wext_cell wr x c1
            have e2 := fun x => wext_cell wr x c2
            have e3 := fun x => wext_cell wr x c3
            have e4 := fun x => wext_cell wr x d1
            have e5 := fun x => wext_cell wr x d2
            have e6 := fun x => wext_cell wr x d3
            have hnq := neqRt c d
            have hgd := guardRt
            refine region_q (by kernel_rfl) (by kernel_rfl) ?_
            repeat (go_big_quiet_step ((first | (fail))))
            refine wpQuiet_nil ?_
            intro wx hbx
            go_wp2_with fail
            go_meet
            exact ⟨rfl, hbe.trans (hbx.mono hbe.size)⟩
          case rest =>
            obtain ⟨rfl, hb2⟩ := hcut
            by_cases hbad : c = d
            · rw [eqB_yes hbad]
              have HBAD := hide hbad
              clear hbad
              go_wp2
              go_roundg (gk - 1)
              case measure => omega
              case rel =>
                refine ⟨k + 1, by omega, by go_num, hb2, hide (fun i hi => ?_)⟩
                rcases Nat.lt_succ_iff_lt_or_eq.1 hi with h | h
                · exact HV.out i h
                · subst h
                  rw [HC.out, HD.out, HBAD.out]
            · rw [eqB_no hbad]
              have HBAD := hide hbad
              clear hbad
              go_wp2
              go_ret
              exact ⟨ret_bool (eqB_no fun h => HBAD.out (by have h1 := HC.out; rw [h, HD.out] at h1; cases h1; rfl)).symm, hb01.trans (hb2.mono hb01.size)⟩
        · go_wp2
          go_ret
          exact ⟨ret_bool (eqB_yes (tab_ext ⟨list_eq hnn fun i hi => HV.out i (by omega), HH.out⟩)).symm, hb01.trans (hbe.mono hb01.size)⟩
    · have hb0 : ((t.routes.length : Int) != (u.routes.length : Int)) = true := by simp; omega
      have HN := hide hne
      clear hne hr hr'
      go_wp2
      go_ret
      exact ⟨ret_bool (eqB_no fun h => HN.out (by rw [h])).symm, hb01⟩
  · rw [eqB_no hh]
    have HH := hide hh
    clear hh hr hr'
    go_wp2
    go_ret
    exact ⟨ret_bool (eqB_no fun h => HH.out (by rw [h])).symm, hb01⟩
end Go.Proofs.Ytlkchocjldllgaa
