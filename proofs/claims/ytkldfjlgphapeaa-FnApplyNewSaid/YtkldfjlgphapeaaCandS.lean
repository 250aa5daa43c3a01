/- Contracts of the loops over lists of candidates: copy, comparison. Conditions: at most 1048576 candidates. -/
import Derived.Test.YtkldfjlgphapeaaCand
namespace Go.Proofs.Ytkldfjlgphapeaa
open Go.RowKit

set_option maxHeartbeats 400000 in
theorem toS_any (v : Value) (cs : List Cand) (w : World) (hv : SlR cc 3 w w.heap.size v cs) (hn : cs.length ≤ 1048576) :
    Calls Try.prog 15 #[v] w fun e w' => ∃ v', e = .returned v' ∧ Own cc 34 3 w' w.heap.size v' cs ∧ Below w.heap.size w w' := by
  obtain ⟨A, cap, rfl, hc, hr⟩ := hv
  obtain ⟨i0, hi, hz0, hz1, hz2⟩ := info_parts Try.infoC
  have hmk := fun W => run_make_n (P := Try.prog) 25 34 i0 _ Try.underlying25 hi hz0 .i64 .i64 cs.length cs.length (Nat.le_refl _) (by rw [hz2]; omega) (by omega) W
  rw [hz1] at hmk
  clear hi hz0 hz1 hz2
  go_enter Try.func15, Try.ntmps15
  go_wp2
  go_loopg [4] (cs.length) (fun g i wr => ∃ (k : Nat) (cur : Array Value), k + g = cs.length ∧ i = .int .i64 k ∧ Hid (Blk wr w.heap.size 34 cur) ∧ Hid (cur.size = cs.length * 3) ∧
    Hid (∀ i x, i < k → cs[i]? = some x → ∀ j u, (cc x)[j]? = some u → cur[i * 3 + j]? = some u) ∧ Below w.heap.size w wr)
  case atStart => exact ⟨0, _, by omega, rfl, hide (Blk.new _ _ _), hide (by simp [madeCells]), hide (fun i x h => by omega), below1 _ _⟩
  case round =>
    obtain ⟨k, cur, hk, rfl, HB, HS, HV, hbe⟩ := hrel
    by_cases hlt : k < cs.length
    · obtain ⟨b, off, rfl, hb, hcell⟩ := hr (by omega)
      obtain ⟨c, hck⟩ : ∃ c, cs[k]? = some c := ⟨_, List.getElem?_eq_getElem hlt⟩
      obtain ⟨c1, c2, c3⟩ := candAt (hcell.keep (w' := wr) fun p hp => hbe.cell (by omega)) hck
      have HC := hide hck
      clear hck
      have hs := HS.out
      go_wp2_with (go_at_call 29; refine (to1_any _ _ _ _).mono ?_; rintro e w1 ⟨rfl, hb1⟩; have B1 := HB.out.up hb1; obtain ⟨u0, hu0⟩ := B1.slot (i := k * 3) (by omega); obtain ⟨u1, hu1⟩ := B1.slot (i := k * 3 + 1) (by omega); obtain ⟨u2, hu2⟩ := B1.slot (i := k * 3 + 2) (by omega); have z0 := B1.free (k * 3); have z1 := B1.free (k * 3 + 1); have z2 := B1.free (k * 3 + 2); have HB1 := hide B1; clear B1)
      go_roundg (gk - 1)
      case measure => omega
      case rel =>
        refine ⟨k + 1, _, by omega, by go_num, hide (((HB1.out.put _ _).put _ _).put _ _), hide (by simpa using hs), hide (rows_step3 cc_len rfl HC.out (by omega) HV.out), ?_⟩
        exact (((hbe.trans (hb1.mono hbe.size)).setCell (Nat.le_refl _) _).setCell (Nat.le_refl _) _).setCell (Nat.le_refl _) _
    · have hkk : k = cs.length := by omega
      have hs := HS.out
      go_wp2
      go_ret
      refine ⟨_, rfl, ?_, hbe⟩
      exact HB.out.own (Nat.le_refl _) (Nat.le_refl _) (by unfold maxLen; omega) hs (take_flat cc_len (by omega) fun i x hx => HV.out i x (by have := (List.getElem?_eq_some_iff.1 hx).1; omega) hx) (flat_len cc_len cs)

set_option maxHeartbeats 400000 in
theorem eqS_any (v v' : Value) (cs ds : List Cand) (w : World) (hv : SlR cc 3 w w.heap.size v cs) (hv' : SlR cc 3 w w.heap.size v' ds) (hn : cs.length ≤ 1048576) (hn' : ds.length ≤ 1048576) :
    Calls Try.prog 17 #[v, v'] w fun e w' => e = .returned (.bool (eqB cs ds)) ∧ Below w.heap.size w w' := by
  obtain ⟨A, cap, rfl, hc, hr⟩ := hv
  obtain ⟨A', cap', rfl, hc', hr'⟩ := hv'
  by_cases hne : cs.length = ds.length
  · have hb0 : ((cs.length : Int) != (ds.length : Int)) = false := by simp [hne]
    have HN := hide hne
    clear hne
    go_enter Try.func17, Try.ntmps17
    go_wp2
    go_loopg [5] (cs.length) (fun g i wr => ∃ k : Nat, k + g = cs.length ∧ i = .int .i64 k ∧ Below w.heap.size w wr ∧
      Hid (∀ i, i < k → cs[i]? = ds[i]?))
    case atStart => exact ⟨0, by omega, rfl, Below.refl _ _, hide (fun i h => by omega)⟩
    case round =>
      obtain ⟨k, hk, rfl, hbe, HV⟩ := hrel
      have hnn := HN.out
      by_cases hlt : k < cs.length
      · obtain ⟨b, off, rfl, hb, hcell⟩ := hr (by omega)
        obtain ⟨b', off', rfl, hb', hcell'⟩ := hr' (by omega)
        obtain ⟨c, hck⟩ : ∃ c, cs[k]? = some c := ⟨_, List.getElem?_eq_getElem hlt⟩
        obtain ⟨d, hdk⟩ : ∃ d, ds[k]? = some d := ⟨_, List.getElem?_eq_getElem (by omega)⟩
        have hlt' : k < ds.length := by omega
        obtain ⟨c1, c2, c3⟩ := candAt (hcell.keep (w' := wr) fun p hp => hbe.cell (by omega)) hck
        obtain ⟨d1, d2, d3⟩ := candAt (hcell'.keep (w' := wr) fun p hp => hbe.cell (by omega)) hdk
        have HC := hide hck
        have HD := hide hdk
        have HNN := hide hnn
        clear hck hdk hnn
        go_upto_region 6 with fail
        go_cut [26] (fun s wx => s = .bool (!eqB c d) ∧ Below w.heap.size w wx)
        case first =>
          have e1 := fun x => wext_cell wr x c1
          have e2 := fun x => wext_cell wr x c2
          have e3 := fun x => wext_cell wr x c3
          have e4 := fun x => wext_cell wr x d1
          have e5 := fun x => wext_cell wr x d2
          have e6 := fun x => wext_cell wr x d3
          refine region_q (by kernel_rfl) (by kernel_rfl) ?_
          repeat (go_big_quiet_step ((first | (go_at_call 31; exact q_call (eq1_any c d _)))))
          refine wpQuiet_nil ?_
          intro wx hbx
          go_wp2_with fail
          go_meet
          exact ⟨rfl, hbe.trans (hbx.mono hbe.size)⟩
        case rest =>
          obtain ⟨rfl, hb2⟩ := hcut
          by_cases hbad : c = d
          · rw [eqB_yes hbad]
            have HBAD := hide hbad
            clear hbad
            go_wp2
            go_roundg (gk - 1)
            case measure => omega
            case rel =>
              refine ⟨k + 1, by omega, by go_num, hb2, hide (fun i hi => ?_)⟩
              rcases Nat.lt_succ_iff_lt_or_eq.1 hi with h | h
              · exact HV.out i h
              · subst h
                rw [HC.out, HD.out, HBAD.out]
          · rw [eqB_no hbad]
            have HBAD := hide hbad
            clear hbad
            go_wp2
            go_ret
            exact ⟨ret_bool (eqB_no fun h => HBAD.out (by have h1 := HC.out; rw [h, HD.out] at h1; cases h1; rfl)).symm, hb2⟩
      · go_wp2
        go_ret
        exact ⟨ret_bool (eqB_yes (list_eq hnn fun i hi => HV.out i (by omega))).symm, hbe⟩
  · have hb0 : ((cs.length : Int) != (ds.length : Int)) = true := by simp; omega
    have HN := hide hne
    clear hne hr hr'
    go_enter Try.func17, Try.ntmps17
    go_wp2
    go_ret
    exact ⟨ret_bool (eqB_no fun h => HN.out (by rw [h])).symm, Below.refl _ _⟩
end Go.Proofs.Ytkldfjlgphapeaa
