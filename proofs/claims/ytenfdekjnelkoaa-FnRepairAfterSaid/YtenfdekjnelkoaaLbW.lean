/- Loops over labels in the laws: comparison, marks. Conditions: at most 1048576 labels. -/
import Derived.Test.YtenfdekjnelkoaaLb
namespace Go.Proofs.Ytenfdekjnelkoaa
open Go.RowKit

theorem eq1L_any (c d : Lb) (w : World) :
    Calls Try.prog 77 #[.agg #[.int .i64 c.k, .int .i64 c.a], .agg #[.int .i64 d.k, .int .i64 d.a]] w
      fun e w' => e = .returned (.bool (eqB c d)) ∧ Below w.heap.size w w' := by
  obtain ⟨x, y⟩ := c
  obtain ⟨x', y'⟩ := d
  by_cases h1 : x = x'
  · by_cases h2 : y = y'
    · subst h1 h2
      go_enter Try.func77, Try.ntmps77
      go_wp2
      go_ret
      exact ⟨ret_bool (eqB_self _).symm, below2 _ _ _⟩
    · subst h1
      have hb : (y != y') = true := by simp [h2]
      go_enter Try.func77, Try.ntmps77
      go_wp2
      go_ret
      exact ⟨ret_bool (eqB_no fun h => h2 (by cases h; rfl)).symm, below2 _ _ _⟩
  · have hb : (x != x') = true := by simp [h1]
    go_enter Try.func77, Try.ntmps77
    go_wp2
    go_ret
    exact ⟨ret_bool (eqB_no fun h => h1 (by cases h; rfl)).symm, below2 _ _ _⟩
set_option maxHeartbeats 800000 in
theorem eqL_any (v v' : Value) (cs ds : List Lb) (w : World) (hv : SlR lbc 2 w w.heap.size v cs) (hv' : SlR lbc 2 w w.heap.size v' ds) (hn : cs.length ≤ 1048576) (hn' : ds.length ≤ 1048576) :
    Calls Try.prog 40 #[v, v'] w fun e w' => e = .returned (.bool (eqB cs ds)) ∧ Below w.heap.size w w' := by
  obtain ⟨A, cap, rfl, hc, hr⟩ := hv
  obtain ⟨A', cap', rfl, hc', hr'⟩ := hv'
  by_cases hne : cs.length = ds.length
  · have hb0 : ((cs.length : Int) != (ds.length : Int)) = false := by simp [hne]
    have HN := hide hne
    clear hne
    go_enter Try.func40, Try.ntmps40
    go_wp2
    go_loopg [5] (cs.length) (fun g i wr => ∃ k : Nat, k + g = cs.length ∧ i = .int .i64 k ∧ Below w.heap.size w wr ∧ Hid (∀ i : Nat, i < k → cs[i]? = ds[i]?))
    case atStart => exact ⟨0, by omega, rfl, Below.refl _ _, hide (fun i h => by omega)⟩
    case round =>
      obtain ⟨k, hk, rfl, hbe, HV⟩ := hrel
      have hnn := HN.out
      by_cases hlt : k < cs.length
      · obtain ⟨b, off, rfl, hb, hcell⟩ := hr (by omega)
        obtain ⟨b', off', rfl, hb', hcell'⟩ := hr' (by omega)
        obtain ⟨c, hck⟩ : ∃ c, cs[k]? = some c := ⟨_, List.getElem?_eq_getElem hlt⟩
        obtain ⟨d, hdk⟩ : ∃ d, ds[k]? = some d := ⟨_, List.getElem?_eq_getElem (by omega)⟩
        have hlt' : k < ds.length := by omega
        obtain ⟨c1, c2⟩ := labAt (hcell.keep (w' := wr) fun p hp => hbe.cell (by omega)) hck
        obtain ⟨d1, d2⟩ := labAt (hcell'.keep (w' := wr) fun p hp => hbe.cell (by omega)) hdk
        have HC := hide hck
        have HD := hide hdk
        have HNN := hide hnn
        clear hck hdk hnn
        go_upto_region 6 with fail
        have e1 := fun x => wext_cell wr x c1
        have e2 := fun x => wext_cell wr x c2
        have e3 := fun x => wext_cell wr x d1
        have e4 := fun x => wext_cell wr x d2
        skip
        refine region_q (by kernel_rfl) (by kernel_rfl) ?_
        repeat (go_big_quiet_step ((first | (go_at_call 77; exact q_call (eq1L_any c d _)))))
        refine wpQuiet_nil ?_
        intro wx hbx
        skip
        have hb2 := hbe.trans (hbx.mono hbe.size)
        by_cases hbad : c = d
        · rw [eqB_yes hbad]
          have HBAD := hide hbad
          clear hbad
          go_wp2
          go_roundg (gk - 1)
          case measure => omega
          case rel =>
            refine ⟨k + 1, by omega, by go_num, hb2, hide (fun i hi => ?_)⟩
            rcases Nat.lt_succ_iff_lt_or_eq.1 hi with h | h
            · exact HV.out i h
            · subst h
              rw [HC.out, HD.out, HBAD.out]
        · rw [eqB_no hbad]
          have HBAD := hide hbad
          clear hbad
          go_wp2
          go_ret
          exact ⟨ret_bool (eqB_no fun h => HBAD.out (by have h1 := HC.out; rw [h, HD.out] at h1; cases h1; rfl)).symm, hb2⟩
      · go_wp2
        go_ret
        exact ⟨ret_bool (eqB_yes (list_eq hnn fun i hi => HV.out i (by omega))).symm, hbe⟩
  · have hb0 : ((cs.length : Int) != (ds.length : Int)) = true := by simp; omega
    have HN := hide hne
    clear hne hr hr'
    go_enter Try.func40, Try.ntmps40
    go_wp2
    go_ret
    exact ⟨ret_bool (eqB_no fun h => HN.out (by rw [h])).symm, Below.refl _ _⟩
set_option maxRecDepth 100000 in
set_option maxHeartbeats 800000 in
theorem sameL_any (v v' : Value) (cs ds : List Lb) (w : World) (hv : SlR lbc 2 w w.heap.size v cs) (hv' : SlR lbc 2 w w.heap.size v' ds) (hn : cs.length ≤ 1048576) (hn' : ds.length ≤ 1048576) :
    Calls Try.prog 37 #[v, v'] w fun e w' => e = .returned (.bool (eqB cs ds)) ∧ Below w.heap.size w w' := by
  obtain ⟨A, cap, rfl, hc, hr⟩ := hv
  obtain ⟨A', cap', rfl, hc', hr'⟩ := hv'
  by_cases hne : cs.length = ds.length
  · have hb0 : ((cs.length : Int) != (ds.length : Int)) = false := by simp [hne]
    have HN := hide hne
    clear hne
    go_enter Try.func37, Try.ntmps37
    go_wp2
    go_loopg [5] (cs.length) (fun g i wr => ∃ k : Nat, k + g = cs.length ∧ i = .int .i64 k ∧ Below w.heap.size w wr ∧ Hid (∀ i : Nat, i < k → cs[i]? = ds[i]?))
    case atStart => exact ⟨0, by omega, rfl, Below.refl _ _, hide (fun i h => by omega)⟩
    case round =>
      obtain ⟨k, hk, rfl, hbe, HV⟩ := hrel
      have hnn := HN.out
      by_cases hlt : k < cs.length
      · obtain ⟨b, off, rfl, hb, hcell⟩ := hr (by omega)
        obtain ⟨b', off', rfl, hb', hcell'⟩ := hr' (by omega)
        obtain ⟨c, hck⟩ : ∃ c, cs[k]? = some c := ⟨_, List.getElem?_eq_getElem hlt⟩
        obtain ⟨d, hdk⟩ : ∃ d, ds[k]? = some d := ⟨_, List.getElem?_eq_getElem (by omega)⟩
        have hlt' : k < ds.length := by omega
        obtain ⟨c1, c2⟩ := labAt (hcell.keep (w' := wr) fun p hp => hbe.cell (by omega)) hck
        obtain ⟨d1, d2⟩ := labAt (hcell'.keep (w' := wr) fun p hp => hbe.cell (by omega)) hdk
        have HC := hide hck
        have HD := hide hdk
        have HNN := hide hnn
        clear hck hdk hnn
        go_upto_region 6 with fail
        have e1 := fun x => wext_cell wr x c1
        have e2 := fun x => wext_cell wr x c2
        have e3 := fun x => wext_cell wr x d1
        have e4 := fun x => wext_cell wr x d2
        have hnq := fun W => neqLb c d W; have hgd := guardLb
        refine region_q (by kernel_rfl) (by kernel_rfl) ?_
        repeat (go_big_quiet_step ((first | (fail))))
        refine wpQuiet_nil ?_
        intro wx hbx
        clear hnq hgd
        have hb2 := hbe.trans (hbx.mono hbe.size)
        by_cases hbad : c = d
        · rw [eqB_yes hbad]
          have HBAD := hide hbad
          clear hbad
          go_wp2
          go_roundg (gk - 1)
          case measure => omega
          case rel =>
            refine ⟨k + 1, by omega, by go_num, hb2, hide (fun i hi => ?_)⟩
            rcases Nat.lt_succ_iff_lt_or_eq.1 hi with h | h
            · exact HV.out i h
            · subst h
              rw [HC.out, HD.out, HBAD.out]
        · rw [eqB_no hbad]
          have HBAD := hide hbad
          clear hbad
          go_wp2
          go_ret
          exact ⟨ret_bool (eqB_no fun h => HBAD.out (by have h1 := HC.out; rw [h, HD.out] at h1; cases h1; rfl)).symm, hb2⟩
      · go_wp2
        go_ret
        exact ⟨ret_bool (eqB_yes (list_eq hnn fun i hi => HV.out i (by omega))).symm, hbe⟩
  · have hb0 : ((cs.length : Int) != (ds.length : Int)) = true := by simp; omega
    have HN := hide hne
    clear hne hr hr'
    go_enter Try.func37, Try.ntmps37
    go_wp2
    go_ret
    exact ⟨ret_bool (eqB_no fun h => HN.out (by rw [h])).symm, Below.refl _ _⟩
set_option maxHeartbeats 800000 in
theorem markL_any (v : Value) (cs : List Lb) (base : Nat) (w : World) (hO : Own lbc 57 2 w base v cs) (hn : cs.length ≤ 1048576) :
    Calls Try.prog 41 #[v, .int .i64 1] w fun e w' => e = .returned (.int .i64 (1 + 2 * cs.length)) ∧ Own lbc 57 2 w' base v (marksL cs.length 1) ∧ w.grownBy w' v.ownBlock := by
  obtain ⟨A, cap, rfl, hc, hr⟩ := hO.slr lbc_len
  have HO0 := hide hO
  have HR := hide hr
  clear hr hO
  go_enter Try.func41, Try.ntmps41
  go_wp2
  go_loopg [1, 5] (cs.length) (fun gg kv iv wr => ∃ (k : Nat) (ds : List Lb), k + gg = cs.length ∧ iv = .int .i64 k ∧ kv = .int .i64 (1 + 2 * (k : Int)) ∧ Hid (Own lbc 57 2 wr base (.slice A cs.length cap) ds) ∧ ds.length = cs.length ∧
    Hid (∀ i, i < k → ds[i]? = (marksL cs.length 1)[i]?) ∧ w.grownBy wr (Value.slice A cs.length cap).ownBlock)
  case atStart => exact ⟨0, cs, by omega, rfl, rfl, HO0, rfl, hide (fun i h => by omega), only_refl _ _⟩
  case round =>
    obtain ⟨k, ds, hk, rfl, rfl, HO, hdl, HV, hgr⟩ := hrel
    have HDL := hide hdl
    clear hdl
    by_cases hlt : k < cs.length
    · obtain ⟨b, off, hA, hb, hrow⟩ := HR.out (by omega)
      obtain ⟨go, cap', hx, hgo1, hgo2⟩ := HO.out.form (by have := HDL.out; omega)
      have hA2 : A = some ⟨go, 0, none⟩ := by injection hx
      subst hA2
      clear hA hb hrow hx HO0 cap'
      have hkd : k < ds.length := by have := HDL.out; omega
      obtain ⟨c, hck⟩ := get_some hkd
      have HC := hide hck
      obtain ⟨⟨u0, q0⟩, z0⟩ := HO.out.slot (k := k) (j := 0) HDL.out.symm hkd (by decide)
      obtain ⟨⟨u1, q1⟩, z1⟩ := HO.out.slot (k := k) (j := 1) HDL.out.symm hkd (by decide)
      rw [Nat.add_zero] at q0 z0
      clear hck
      have s1 := HO.out.set lbc_len (k := k) (j := 0) (x := c) (y := ⟨1 + 2 * (k : Int), c.a⟩) (u := .int .i64 (1 + 2 * (k : Int))) HDL.out.symm HC.out (by decide) rfl
      have s2 := s1.set lbc_len (k := k) (j := 1) (x := ⟨1 + 2 * (k : Int), c.a⟩) (y := ⟨1 + 2 * (k : Int), 1 + 2 * (k : Int) + 1⟩) (u := .int .i64 (1 + 2 * (k : Int) + 1)) (by rw [List.length_set]; exact HDL.out.symm) (by rw [List.getElem?_set_self hkd]) (by decide) rfl
      have HS := hide s2
      have HG : Hid (w.grownBy ((wr.setCell ⟨go, k * 2, none⟩ (Value.int .i64 (1 + 2 * (k : Int)))).setCell ⟨go, k * 2 + 1, none⟩ (Value.int .i64 (1 + 2 * (k : Int) + 1))) (some go)) := hide (marks2_only hgr)
      have HVN : Hid (∀ i, i < k + 1 → ((ds.set k ⟨1 + 2 * (k : Int), c.a⟩).set k ⟨1 + 2 * (k : Int), 1 + 2 * (k : Int) + 1⟩)[i]? = (marksL cs.length 1)[i]?) := hide (fun i hi => by
        rcases Nat.lt_succ_iff_lt_or_eq.1 hi with h | h
        · rw [List.getElem?_set_ne (by omega), List.getElem?_set_ne (by omega)]
          exact HV.out i h
        · subst h
          rw [List.getElem?_set_self (by simp only [List.length_set]; exact hkd), marksL_get _ _ _ hlt])
      have HLN : Hid (((ds.set k ⟨1 + 2 * (k : Int), c.a⟩).set k ⟨1 + 2 * (k : Int), 1 + 2 * (k : Int) + 1⟩).length = cs.length) := hide (by simp only [List.length_set]; exact HDL.out)
      have HKN : Hid (1 + 2 * (k : Int) + 1 + 1 = 1 + 2 * ((k + 1 : Nat) : Int)) := hide (by omega)
      clear s1 s2 hgr HV HC
      go_wp2
      go_roundg (gk - 1)
      case measure => omega
      case rel => exact ⟨k + 1, _, by omega, by go_num, congrArg (Value.int .i64) HKN.out, HS, HLN.out, HVN, HG.out⟩
    · have hds : ds = marksL cs.length 1 := list_eq (by rw [marksL_len]; exact HDL.out) fun i hi => HV.out i (by have := HDL.out; omega)
      have hkk : k = cs.length := by omega
      have HF := hide (hds ▸ HO.out)
      clear hds HO HV
      subst hkk
      go_wp2
      go_ret
      exact ⟨rfl, HF.out, hgr⟩
theorem heldL_any (v : Value) (cs : List Lb) (w : World) (hv : SlR lbc 2 w w.heap.size v cs) (hn : cs.length ≤ 1048576) (hm : cs = marksL cs.length 1) :
    Calls Try.prog 42 #[v, .int .i64 1] w fun e w' => e = .returned (.int .i64 (1 + 2 * cs.length)) ∧ w' = w := by
  obtain ⟨A, cap, rfl, hc, hr⟩ := hv
  have HM := hide hm
  clear hm
  go_enter Try.func42, Try.ntmps42
  go_wp2
  go_loopg [1, 5] (cs.length) (fun gg kv iv wr => ∃ k : Nat, k + gg = cs.length ∧ iv = .int .i64 k ∧ kv = .int .i64 (1 + 2 * (k : Int)) ∧ wr = w)
  case atStart => exact ⟨0, by omega, rfl, rfl, rfl⟩
  case round =>
    obtain ⟨k, hk, rfl, rfl, hw⟩ := hrel
    subst hw
    by_cases hlt : k < cs.length
    · obtain ⟨b, off, rfl, hb, hcell⟩ := hr (by omega)
      have hck := marksL_get cs.length 1 k hlt
      rw [← HM.out] at hck
      obtain ⟨c1, c2⟩ := labAt hcell hck
      simp only at c1 c2
      clear hck
      have n1 : ((1 + 2 * (k : Int)) != 1 + 2 * (k : Int)) = false := by simp
      have n2 : ((1 + 2 * (k : Int) + 1) != 1 + 2 * (k : Int) + 1) = false := by simp
      go_wp2
      go_roundg (gk - 1)
      case measure => omega
      case rel => exact ⟨k + 1, by omega, by go_num, congrArg (Value.int .i64) (by omega), rfl⟩
    · have hkk : k = cs.length := by omega
      subst hkk
      go_wp2
      go_ret
      exact ⟨rfl, rfl⟩
end Go.Proofs.Ytenfdekjnelkoaa
