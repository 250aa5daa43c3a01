/- Contracts of the loops over lists of ints: size, copy, comparison, marks. Conditions: at most 1048576 numbers. -/
import Derived.Test.YtbhkjeicogjfbaaBase2
import Derived.Test.YtbhkjeicogjfbaaPick
namespace Go.Proofs.Ytbhkjeicogjfbaa
open Go.RowKit

theorem ic_cell {w : World} {b off k : Nat} {cs : List Int} {c : Int} (h : RowsAt ic 1 w b off cs) (hk : cs[k]? = some c) : w.cell? ⟨b, off + k, none⟩ = some (.int .i64 c) := rowAt1 h hk rfl
theorem Try.infoInt : (Try.prog.info? 3).map (fun i => (i.zero, i.size, i.bytes)) = some (some (.int .i64 0), 1, 8) := by kernel_rfl

set_option maxHeartbeats 400000 in
theorem eqI_any (v v' : Value) (cs ds : List Int) (w : World) (hv : SlR ic 1 w w.heap.size v cs) (hv' : SlR ic 1 w w.heap.size v' ds) (hn : cs.length ≤ 1048576) (hn' : ds.length ≤ 1048576) :
    Calls Try.prog 31 #[v, v'] w fun e w' => e = .returned (.bool (eqB cs ds)) ∧ Below w.heap.size w w' := by
  obtain ⟨A, cap, rfl, hc, hr⟩ := hv
  obtain ⟨A', cap', rfl, hc', hr'⟩ := hv'
  by_cases hne : cs.length = ds.length
  · have hb0 : ((cs.length : Int) != (ds.length : Int)) = false := by simp [hne]
    have HN := hide hne
    clear hne
    go_enter Try.func31, Try.ntmps31
    go_wp2
    go_loopg [5] (cs.length) (fun g i wr => ∃ k : Nat, k + g = cs.length ∧ i = .int .i64 k ∧ Below w.heap.size w wr ∧ Hid (∀ i : Nat, i < k → cs[i]? = ds[i]?))
    case atStart => exact ⟨0, by omega, rfl, Below.refl _ _, hide (fun i h => by omega)⟩
    case round =>
      obtain ⟨k, hk, rfl, hbe, HV⟩ := hrel
      have hnn := HN.out
      by_cases hlt : k < cs.length
      · obtain ⟨b, off, rfl, hb, hcell⟩ := hr (by omega)
        obtain ⟨b', off', rfl, hb', hcell'⟩ := hr' (by omega)
        obtain ⟨c, hck⟩ : ∃ c, cs[k]? = some c := ⟨_, List.getElem?_eq_getElem hlt⟩
        obtain ⟨d, hdk⟩ : ∃ d, ds[k]? = some d := ⟨_, List.getElem?_eq_getElem (by omega)⟩
        have hlt' : k < ds.length := by omega
        have c1 := ic_cell (hcell.keep (w' := wr) fun p hp => hbe.cell (by omega)) hck
        have d1 := ic_cell (hcell'.keep (w' := wr) fun p hp => hbe.cell (by omega)) hdk
        have HC := hide hck
        have HD := hide hdk
        have HNN := hide hnn
        clear hck hdk hnn
        go_upto_region 6 with fail
        have e1 := fun x => wext_cell wr x c1
        have e4 := fun x => wext_cell wr x d1
        refine region_q (by kernel_rfl) (by kernel_rfl) ?_
        repeat (go_big_quiet_step ((first | (fail))))
        refine wpQuiet_nil ?_
        intro wx hbx
        by_cases hbad : c = d
        · have hb0 : (c != d) = false := by simp [hbad]
          have HBAD := hide hbad
          clear hbad
          go_wp2
          go_roundg (gk - 1)
          case measure => omega
          case rel =>
            refine ⟨k + 1, by omega, by go_num, hbe.trans (hbx.mono hbe.size), hide (fun i hi => ?_)⟩
            rcases Nat.lt_succ_iff_lt_or_eq.1 hi with h | h
            · exact HV.out i h
            · subst h
              rw [HC.out, HD.out, HBAD.out]
        · have hb0 : (c != d) = true := by simp [hbad]
          have HBAD := hide hbad
          clear hbad
          go_wp2
          go_ret
          exact ⟨ret_bool (eqB_no fun h => HBAD.out (by have h1 := HC.out; rw [h, HD.out] at h1; cases h1; rfl)).symm, hbe.trans (hbx.mono hbe.size)⟩
      · go_wp2
        go_ret
        exact ⟨ret_bool (eqB_yes (list_eq hnn fun i hi => HV.out i (by omega))).symm, hbe⟩
  · have hb0 : ((cs.length : Int) != (ds.length : Int)) = true := by simp; omega
    have HN := hide hne
    clear hne hr hr'
    go_enter Try.func31, Try.ntmps31
    go_wp2
    go_ret
    exact ⟨ret_bool (eqB_no fun h => HN.out (by rw [h])).symm, Below.refl _ _⟩
set_option maxHeartbeats 400000 in
theorem same_any (v v' : Value) (cs ds : List Int) (w : World) (hv : SlR ic 1 w w.heap.size v cs) (hv' : SlR ic 1 w w.heap.size v' ds) (hn : cs.length ≤ 1048576) (hn' : ds.length ≤ 1048576) :
    Calls Try.prog 19 #[v, v'] w fun e w' => e = .returned (.bool (eqB cs ds)) ∧ Below w.heap.size w w' := by
  obtain ⟨A, cap, rfl, hc, hr⟩ := hv
  obtain ⟨A', cap', rfl, hc', hr'⟩ := hv'
  by_cases hne : cs.length = ds.length
  · have hb0 : ((cs.length : Int) != (ds.length : Int)) = false := by simp [hne]
    have HN := hide hne
    clear hne
    go_enter Try.func19, Try.ntmps19
    go_wp2
    go_loopg [5] (cs.length) (fun g i wr => ∃ k : Nat, k + g = cs.length ∧ i = .int .i64 k ∧ Below w.heap.size w wr ∧ Hid (∀ i : Nat, i < k → cs[i]? = ds[i]?))
    case atStart => exact ⟨0, by omega, rfl, Below.refl _ _, hide (fun i h => by omega)⟩
    case round =>
      obtain ⟨k, hk, rfl, hbe, HV⟩ := hrel
      have hnn := HN.out
      by_cases hlt : k < cs.length
      · obtain ⟨b, off, rfl, hb, hcell⟩ := hr (by omega)
        obtain ⟨b', off', rfl, hb', hcell'⟩ := hr' (by omega)
        obtain ⟨c, hck⟩ : ∃ c, cs[k]? = some c := ⟨_, List.getElem?_eq_getElem hlt⟩
        obtain ⟨d, hdk⟩ : ∃ d, ds[k]? = some d := ⟨_, List.getElem?_eq_getElem (by omega)⟩
        have hlt' : k < ds.length := by omega
        have c1 := ic_cell (hcell.keep (w' := wr) fun p hp => hbe.cell (by omega)) hck
        have d1 := ic_cell (hcell'.keep (w' := wr) fun p hp => hbe.cell (by omega)) hdk
        have HC := hide hck
        have HD := hide hdk
        have HNN := hide hnn
        clear hck hdk hnn
        go_upto_region 6 with fail
        have e1 := fun x => wext_cell wr x c1
        have e4 := fun x => wext_cell wr x d1
        refine region_q (by kernel_rfl) (by kernel_rfl) ?_
        repeat (go_big_quiet_step ((first | (fail))))
        refine wpQuiet_nil ?_
        intro wx hbx
        by_cases hbad : c = d
        · have hb0 : (c != d) = false := by simp [hbad]
          have HBAD := hide hbad
          clear hbad
          go_wp2
          go_roundg (gk - 1)
          case measure => omega
          case rel =>
            refine ⟨k + 1, by omega, by go_num, hbe.trans (hbx.mono hbe.size), hide (fun i hi => ?_)⟩
            rcases Nat.lt_succ_iff_lt_or_eq.1 hi with h | h
            · exact HV.out i h
            · subst h
              rw [HC.out, HD.out, HBAD.out]
        · have hb0 : (c != d) = true := by simp [hbad]
          have HBAD := hide hbad
          clear hbad
          go_wp2
          go_ret
          exact ⟨ret_bool (eqB_no fun h => HBAD.out (by have h1 := HC.out; rw [h, HD.out] at h1; cases h1; rfl)).symm, hbe.trans (hbx.mono hbe.size)⟩
      · go_wp2
        go_ret
        exact ⟨ret_bool (eqB_yes (list_eq hnn fun i hi => HV.out i (by omega))).symm, hbe⟩
  · have hb0 : ((cs.length : Int) != (ds.length : Int)) = true := by simp; omega
    have HN := hide hne
    clear hne hr hr'
    go_enter Try.func19, Try.ntmps19
    go_wp2
    go_ret
    exact ⟨ret_bool (eqB_no fun h => HN.out (by rw [h])).symm, Below.refl _ _⟩

set_option maxHeartbeats 400000 in
theorem toI_any (v : Value) (cs : List Int) (w : World) (hv : SlR ic 1 w w.heap.size v cs) (hn : cs.length ≤ 1048576) :
    Calls Try.prog 29 #[v] w fun e w' => ∃ v', e = .returned v' ∧ Own ic 3 1 w' w.heap.size v' cs ∧ Below w.heap.size w w' := by
  obtain ⟨A, cap, rfl, hc, hr⟩ := hv
  obtain ⟨i0, hi, hz0, hz1, hz2⟩ := info_parts Try.infoInt
  have hmk := fun W => run_make_n (P := Try.prog) 28 3 i0 _ Try.underlying28 hi hz0 .i64 .i64 cs.length cs.length (Nat.le_refl _) (by rw [hz2]; omega) (by omega) W
  rw [hz1] at hmk
  clear hi hz0 hz1 hz2
  go_enter Try.func29, Try.ntmps29
  go_wp2
  go_loopg [4] (cs.length) (fun g i wr => ∃ (k : Nat) (cur : Array Value), k + g = cs.length ∧ i = .int .i64 k ∧ Hid (Blk wr w.heap.size 3 cur) ∧ Hid (cur.size = cs.length) ∧
    Hid (∀ (i : Nat) (x : Int), i < k → cs[i]? = some x → cur[i]? = some (.int .i64 x)) ∧ Below w.heap.size w wr)
  case atStart => exact ⟨0, _, by omega, rfl, hide (Blk.new _ _ _), hide (by simp [madeCells]), hide (fun i x h => by omega), below1 _ _⟩
  case round =>
    obtain ⟨k, cur, hk, rfl, HB, HS, HV, hbe⟩ := hrel
    by_cases hlt : k < cs.length
    · obtain ⟨b, off, rfl, hb, hcell⟩ := hr (by omega)
      obtain ⟨c, hck⟩ : ∃ c, cs[k]? = some c := ⟨_, List.getElem?_eq_getElem hlt⟩
      have c1 := ic_cell (hcell.keep (w' := wr) fun p hp => hbe.cell (by omega)) hck
      have HC := hide hck
      clear hck
      have hs := HS.out
      obtain ⟨u0, hu0⟩ := HB.out.slot (i := k) (by omega)
      have z0 := HB.out.free k
      go_wp2
      go_roundg (gk - 1)
      case measure => omega
      case rel =>
        refine ⟨k + 1, _, by omega, by go_num, hide (HB.out.put _ _), hide (by simpa using hs), hide (fun i x hi hx => ?_), hbe.setCell (Nat.le_refl _) _⟩
        by_cases h : i = k
        · subst h
          rw [HC.out] at hx
          cases hx
          rw [Array.getElem?_setIfInBounds_self_of_lt (by omega)]
        · rw [Array.getElem?_setIfInBounds_ne (by omega)]
          exact HV.out i x (by omega) hx
    · have hkk : k = cs.length := by omega
      have hs := HS.out
      go_wp2
      go_ret
      refine ⟨_, rfl, ?_, hbe⟩
      exact HB.out.own (Nat.le_refl _) (Nat.le_refl _) (by unfold maxLen; omega) (by simpa using hs) (take_flat ic_len (by omega) fun i x hx j u hu => by
        have hj : j = 0 := by cases j with | zero => rfl | succ j => simp [ic] at hu
        subst hj
        simp [ic] at hu
        subst hu
        simpa using HV.out i x (by have := (List.getElem?_eq_some_iff.1 hx).1; omega) hx) (flat_len ic_len cs)

/-! ### Marks -/
/-- The list that reads k, k+1, .. -/
def marksI : Nat → Int → List Int
  | 0, _ => []
  | n + 1, k => k :: marksI n (k + 1)
theorem marksI_len : ∀ (n : Nat) (k : Int), (marksI n k).length = n
  | 0, _ => rfl
  | n + 1, k => by simp [marksI, marksI_len n]
theorem marksI_get : ∀ (n : Nat) (k : Int) (i : Nat), i < n → (marksI n k)[i]? = some (k + i)
  | 0, _, i, h => by omega
  | n + 1, k, 0, _ => by simp [marksI]
  | n + 1, k, i + 1, h => by
    simp only [marksI, List.getElem?_cons_succ]
    rw [marksI_get n (k + 1) i (by omega)]
    congr 1; omega
set_option maxHeartbeats 800000 in
theorem markI_any (v : Value) (cs : List Int) (a : Int) (base : Nat) (w : World) (hO : Own ic 3 1 w base v cs) (hn : cs.length ≤ 1048576) (ha : 0 ≤ a ∧ a ≤ 1099511627776) :
    Calls Try.prog 34 #[v, .int .i64 a] w fun e w' => e = .returned (.int .i64 (a + cs.length)) ∧ Own ic 3 1 w' base v (marksI cs.length a) ∧ w.grownBy w' v.ownBlock := by
  obtain ⟨A, cap, rfl, hc, hr⟩ := hO.slr ic_len
  obtain ⟨ha0, ha1⟩ := ha
  have HO0 := hide hO
  have HR := hide hr
  clear hr hO
  go_enter Try.func34, Try.ntmps34
  go_wp2
  go_loopg [1, 5] (cs.length) (fun gg kv iv wr => ∃ (k : Nat) (ds : List Int), k + gg = cs.length ∧ iv = .int .i64 k ∧ kv = .int .i64 (a + (k : Int)) ∧ Hid (Own ic 3 1 wr base (.slice A cs.length cap) ds) ∧ ds.length = cs.length ∧
    Hid (∀ i, i < k → ds[i]? = (marksI cs.length a)[i]?) ∧ Hid (w.grownBy wr (Value.slice A cs.length cap).ownBlock))
  case atStart => exact ⟨0, cs, by omega, rfl, congrArg (Value.int .i64) (by omega), HO0, rfl, hide (fun i h => by omega), hide (only_refl _ _)⟩
  case round =>
    obtain ⟨k, ds, hk, rfl, rfl, HO, hdl, HV, hgr⟩ := hrel
    have HDL := hide hdl
    clear hdl
    by_cases hlt : k < cs.length
    · obtain ⟨b, off, hA, hb, hrow⟩ := HR.out (by omega)
      obtain ⟨go, cap', hx, hgo1, hgo2⟩ := HO.out.form (by have := HDL.out; omega)
      have hA2 : A = some ⟨go, 0, none⟩ := by injection hx
      subst hA2
      clear hA hb hrow hx HO0 cap'
      have hkd : k < ds.length := by have := HDL.out; omega
      obtain ⟨c, hck⟩ := get_some hkd
      have HC := hide hck
      obtain ⟨⟨u0, q0⟩, z0⟩ := HO.out.slot (k := k) (j := 0) HDL.out.symm hkd (by decide)
      rw [Nat.mul_one, Nat.add_zero] at q0 z0
      clear hck
      have s1 := HO.out.set ic_len (k := k) (j := 0) (x := c) (y := a + (k : Int)) (u := .int .i64 (a + (k : Int))) HDL.out.symm HC.out (by decide) rfl
      rw [Nat.mul_one, Nat.add_zero] at s1
      have HS := hide s1
      have HG : Hid (w.grownBy (wr.setCell ⟨go, k, none⟩ (Value.int .i64 (a + (k : Int)))) (some go)) := hide (only_setCell hgr.out (p := ⟨go, k, none⟩) (.inl rfl) _)
      have HVN : Hid (∀ i, i < k + 1 → (ds.set k (a + (k : Int)))[i]? = (marksI cs.length a)[i]?) := hide (fun i hi => by
        rcases Nat.lt_succ_iff_lt_or_eq.1 hi with h | h
        · rw [List.getElem?_set_ne (by omega)]
          exact HV.out i h
        · subst h
          rw [List.getElem?_set_self hkd, marksI_get _ _ _ hlt])
      have HLN : Hid ((ds.set k (a + (k : Int))).length = cs.length) := hide (by simp only [List.length_set]; exact HDL.out)
      clear s1 hgr HV HC
      go_wp2
      go_roundg (gk - 1)
      case measure => omega
      case rel => exact ⟨k + 1, _, by omega, by go_num, congrArg (Value.int .i64) (by omega), HS, HLN.out, HVN, HG⟩
    · have hds : ds = marksI cs.length a := list_eq (by rw [marksI_len]; exact HDL.out) fun i hi => HV.out i (by have := HDL.out; omega)
      have hkk : k = cs.length := by omega
      have HF := hide (hds ▸ HO.out)
      clear hds HO HV
      subst hkk
      go_wp2
      go_ret
      exact ⟨rfl, HF.out, hgr.out⟩
theorem heldI_any (v : Value) (cs : List Int) (a : Int) (w : World) (hv : SlR ic 1 w w.heap.size v cs) (hn : cs.length ≤ 1048576) (ha : 0 ≤ a ∧ a ≤ 1099511627776) (hm : cs = marksI cs.length a) :
    Calls Try.prog 35 #[v, .int .i64 a] w fun e w' => e = .returned (.int .i64 (a + cs.length)) ∧ w' = w := by
  obtain ⟨A, cap, rfl, hc, hr⟩ := hv
  obtain ⟨ha0, ha1⟩ := ha
  have HM := hide hm
  clear hm
  go_enter Try.func35, Try.ntmps35
  go_wp2
  go_loopg [1, 5] (cs.length) (fun gg kv iv wr => ∃ k : Nat, k + gg = cs.length ∧ iv = .int .i64 k ∧ kv = .int .i64 (a + (k : Int)) ∧ wr = w)
  case atStart => exact ⟨0, by omega, rfl, congrArg (Value.int .i64) (by omega), rfl⟩
  case round =>
    obtain ⟨k, hk, rfl, rfl, hw⟩ := hrel
    subst hw
    by_cases hlt : k < cs.length
    · obtain ⟨b, off, rfl, hb, hcell⟩ := hr (by omega)
      have hck := marksI_get cs.length a k hlt
      rw [← HM.out] at hck
      have c1 := ic_cell hcell hck
      clear hck
      have n1 : ((a + (k : Int)) != a + (k : Int)) = false := by simp
      go_wp2
      go_roundg (gk - 1)
      case measure => omega
      case rel => exact ⟨k + 1, by omega, by go_num, congrArg (Value.int .i64) (by omega), rfl⟩
    · have hkk : k = cs.length := by omega
      subst hkk
      go_wp2
      go_ret
      exact ⟨rfl, rfl⟩
end Go.Proofs.Ytbhkjeicogjfbaa
