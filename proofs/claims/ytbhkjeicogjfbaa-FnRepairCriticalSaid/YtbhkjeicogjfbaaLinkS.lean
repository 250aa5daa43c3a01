/- Contracts of the loops over lists of links: size, copy, comparison, marks. Conditions: at most 1048576 links. -/
import Derived.Test.YtbhkjeicogjfbaaLink
import Derived.Test.YtbhkjeicogjfbaaPick
namespace Go.Proofs.Ytbhkjeicogjfbaa
open Go.RowKit

/-! ### size -/
theorem sz_any (v : Value) (cs : List Lk) (w : World) (hv : SlR lc 3 w w.heap.size v cs) (hn : cs.length ≤ 1048576) :
    Calls Try.prog 76 #[v, .int .i64 1048576] w fun e w' => e = .returned (.int .i64 (1048576 - cs.length)) ∧ w' = w := by
  obtain ⟨A, cap, rfl, hc, hr⟩ := hv
  clear hr
  go_enter Try.func76, Try.ntmps76
  go_wp2
  go_ret
  simp
theorem sz_over (v : Value) (cs : List Lk) (w : World) (hv : SlR lc 3 w w.heap.size v cs) (hn : 1048576 < cs.length) (hm : cs.length ≤ 9223372036854775807) :
    Calls Try.prog 76 #[v, .int .i64 1048576] w fun e w' => e = .returned (.int .i64 (-1)) ∧ w' = w := by
  obtain ⟨A, cap, rfl, hc, hr⟩ := hv
  clear hr
  go_enter Try.func76, Try.ntmps76
  go_wp2
  go_ret
  simp

/-! ### one candidate: copy, comparison -/
theorem to1_any (x y z : Int) (w : World) :
    Calls Try.prog 106 #[.agg #[.int .i64 x, .int .i64 y, .int .i64 z]] w fun e w' => e = .returned (.agg #[.int .i64 x, .int .i64 y, .int .i64 z]) ∧ Below w.heap.size w w' := by
  go_enter Try.func106, Try.ntmps106
  go_wp2
  refine bodyPost_ret (v := .agg #[.int .i64 x, .int .i64 y, .int .i64 z]) (by simp [results, Try.results106, go_sem]) rfl ⟨rfl, ?_⟩
  exact below3 _ _ _ _

theorem eq1_any (c d : Lk) (w : World) :
    Calls Try.prog 107 #[.agg #[.int .i64 c.a, .int .i64 c.b, .int .i64 c.c], .agg #[.int .i64 d.a, .int .i64 d.b, .int .i64 d.c]] w
      fun e w' => e = .returned (.bool (eqB c d)) ∧ Below w.heap.size w w' := by
  obtain ⟨x, y, z⟩ := c
  obtain ⟨x', y', z'⟩ := d
  by_cases h1 : x = x'
  · by_cases h2 : y = y'
    · by_cases h3 : z = z'
      · subst h1 h2 h3
        go_enter Try.func107, Try.ntmps107
        go_wp2
        go_ret
        exact ⟨ret_bool (eqB_self _).symm, below2 _ _ _⟩
      · subst h1 h2
        have hb : (z != z') = true := by simp [h3]
        go_enter Try.func107, Try.ntmps107
        go_wp2
        go_ret
        exact ⟨ret_bool (eqB_no fun h => h3 (by cases h; rfl)).symm, below2 _ _ _⟩
    · subst h1
      have hb : (y != y') = true := by simp [h2]
      go_enter Try.func107, Try.ntmps107
      go_wp2
      go_ret
      exact ⟨ret_bool (eqB_no fun h => h2 (by cases h; rfl)).symm, below2 _ _ _⟩
  · have hb : (x != x') = true := by simp [h1]
    go_enter Try.func107, Try.ntmps107
    go_wp2
    go_ret
    exact ⟨ret_bool (eqB_no fun h => h1 (by cases h; rfl)).symm, below2 _ _ _⟩

set_option maxHeartbeats 400000 in
theorem toS_any (v : Value) (cs : List Lk) (w : World) (hv : SlR lc 3 w w.heap.size v cs) (hn : cs.length ≤ 1048576) :
    Calls Try.prog 78 #[v] w fun e w' => ∃ v', e = .returned v' ∧ Own lc 64 3 w' w.heap.size v' cs ∧ Below w.heap.size w w' := by
  obtain ⟨A, cap, rfl, hc, hr⟩ := hv
  obtain ⟨i0, hi, hz0, hz1, hz2⟩ := info_parts Try.infoL
  have hmk := fun W => run_make_n (P := Try.prog) 23 64 i0 _ Try.underlying23 hi hz0 .i64 .i64 cs.length cs.length (Nat.le_refl _) (by rw [hz2]; omega) (by omega) W
  rw [hz1] at hmk
  clear hi hz0 hz1 hz2
  go_enter Try.func78, Try.ntmps78
  go_wp2
  go_loopg [4] (cs.length) (fun g i wr => ∃ (k : Nat) (cur : Array Value), k + g = cs.length ∧ i = .int .i64 k ∧ Hid (Blk wr w.heap.size 64 cur) ∧ Hid (cur.size = cs.length * 3) ∧
    Hid (∀ i x, i < k → cs[i]? = some x → ∀ j u, (lc x)[j]? = some u → cur[i * 3 + j]? = some u) ∧ Below w.heap.size w wr)
  case atStart => exact ⟨0, _, by omega, rfl, hide (Blk.new _ _ _), hide (by simp [madeCells]), hide (fun i x h => by omega), below1 _ _⟩
  case round =>
    obtain ⟨k, cur, hk, rfl, HB, HS, HV, hbe⟩ := hrel
    by_cases hlt : k < cs.length
    · obtain ⟨b, off, rfl, hb, hcell⟩ := hr (by omega)
      obtain ⟨c, hck⟩ : ∃ c, cs[k]? = some c := ⟨_, List.getElem?_eq_getElem hlt⟩
      obtain ⟨c1, c2, c3⟩ := linkAt (hcell.keep (w' := wr) fun p hp => hbe.cell (by omega)) hck
      have HC := hide hck
      clear hck
      have hs := HS.out
      go_wp2_with (go_at_call 106; refine (to1_any _ _ _ _).mono ?_; rintro e w1 ⟨rfl, hb1⟩; have B1 := HB.out.up hb1; obtain ⟨u0, hu0⟩ := B1.slot (i := k * 3) (by omega); obtain ⟨u1, hu1⟩ := B1.slot (i := k * 3 + 1) (by omega); obtain ⟨u2, hu2⟩ := B1.slot (i := k * 3 + 2) (by omega); have z0 := B1.free (k * 3); have z1 := B1.free (k * 3 + 1); have z2 := B1.free (k * 3 + 2); have HB1 := hide B1; clear B1)
      go_roundg (gk - 1)
      case measure => omega
      case rel =>
        refine ⟨k + 1, _, by omega, by go_num, hide (((HB1.out.put _ _).put _ _).put _ _), hide (by simpa using hs), hide (rows_step3 lc_len rfl HC.out (by omega) HV.out), ?_⟩
        exact (((hbe.trans (hb1.mono hbe.size)).setCell (Nat.le_refl _) _).setCell (Nat.le_refl _) _).setCell (Nat.le_refl _) _
    · have hkk : k = cs.length := by omega
      have hs := HS.out
      go_wp2
      go_ret
      refine ⟨_, rfl, ?_, hbe⟩
      exact HB.out.own (Nat.le_refl _) (Nat.le_refl _) (by unfold maxLen; omega) hs (take_flat lc_len (by omega) fun i x hx => HV.out i x (by have := (List.getElem?_eq_some_iff.1 hx).1; omega) hx) (flat_len lc_len cs)

set_option maxHeartbeats 400000 in
theorem eqS_any (v v' : Value) (cs ds : List Lk) (w : World) (hv : SlR lc 3 w w.heap.size v cs) (hv' : SlR lc 3 w w.heap.size v' ds) (hn : cs.length ≤ 1048576) (hn' : ds.length ≤ 1048576) :
    Calls Try.prog 79 #[v, v'] w fun e w' => e = .returned (.bool (eqB cs ds)) ∧ Below w.heap.size w w' := by
  obtain ⟨A, cap, rfl, hc, hr⟩ := hv
  obtain ⟨A', cap', rfl, hc', hr'⟩ := hv'
  by_cases hne : cs.length = ds.length
  · have hb0 : ((cs.length : Int) != (ds.length : Int)) = false := by simp [hne]
    have HN := hide hne
    clear hne
    go_enter Try.func79, Try.ntmps79
    go_wp2
    go_loopg [5] (cs.length) (fun g i wr => ∃ k : Nat, k + g = cs.length ∧ i = .int .i64 k ∧ Below w.heap.size w wr ∧
      Hid (∀ i, i < k → cs[i]? = ds[i]?))
    case atStart => exact ⟨0, by omega, rfl, Below.refl _ _, hide (fun i h => by omega)⟩
    case round =>
      obtain ⟨k, hk, rfl, hbe, HV⟩ := hrel
      have hnn := HN.out
      by_cases hlt : k < cs.length
      · obtain ⟨b, off, rfl, hb, hcell⟩ := hr (by omega)
        obtain ⟨b', off', rfl, hb', hcell'⟩ := hr' (by omega)
        obtain ⟨c, hck⟩ : ∃ c, cs[k]? = some c := ⟨_, List.getElem?_eq_getElem hlt⟩
        obtain ⟨d, hdk⟩ : ∃ d, ds[k]? = some d := ⟨_, List.getElem?_eq_getElem (by omega)⟩
        have hlt' : k < ds.length := by omega
        obtain ⟨c1, c2, c3⟩ := linkAt (hcell.keep (w' := wr) fun p hp => hbe.cell (by omega)) hck
        obtain ⟨d1, d2, d3⟩ := linkAt (hcell'.keep (w' := wr) fun p hp => hbe.cell (by omega)) hdk
        have HC := hide hck
        have HD := hide hdk
        have HNN := hide hnn
        clear hck hdk hnn
        go_upto_region 6 with fail
        go_cut [26] (fun s wx => s = .bool (!eqB c d) ∧ Below w.heap.size w wx)
        case first =>
          have e1 := fun x => wext_cell wr x c1
          have e2 := fun x => wext_cell wr x c2
          have e3 := fun x => wext_cell wr x c3
          have e4 := fun x => wext_cell wr x d1
          have e5 := fun x => wext_cell wr x d2
          have e6 := fun x => wext_cell wr x d3
          refine region_q (by kernel_rfl) (by kernel_rfl) ?_
          repeat (go_big_quiet_step ((first | (go_at_call 107; exact q_call (eq1_any c d _)))))
          refine wpQuiet_nil ?_
          intro wx hbx
          go_wp2_with fail
          go_meet
          exact ⟨rfl, hbe.trans (hbx.mono hbe.size)⟩
        case rest =>
          obtain ⟨rfl, hb2⟩ := hcut
          by_cases hbad : c = d
          · rw [eqB_yes hbad]
            have HBAD := hide hbad
            clear hbad
            go_wp2
            go_roundg (gk - 1)
            case measure => omega
            case rel =>
              refine ⟨k + 1, by omega, by go_num, hb2, hide (fun i hi => ?_)⟩
              rcases Nat.lt_succ_iff_lt_or_eq.1 hi with h | h
              · exact HV.out i h
              · subst h
                rw [HC.out, HD.out, HBAD.out]
          · rw [eqB_no hbad]
            have HBAD := hide hbad
            clear hbad
            go_wp2
            go_ret
            exact ⟨ret_bool (eqB_no fun h => HBAD.out (by have h1 := HC.out; rw [h, HD.out] at h1; cases h1; rfl)).symm, hb2⟩
      · go_wp2
        go_ret
        exact ⟨ret_bool (eqB_yes (list_eq hnn fun i hi => HV.out i (by omega))).symm, hbe⟩
  · have hb0 : ((cs.length : Int) != (ds.length : Int)) = true := by simp; omega
    have HN := hide hne
    clear hne hr hr'
    go_enter Try.func79, Try.ntmps79
    go_wp2
    go_ret
    exact ⟨ret_bool (eqB_no fun h => HN.out (by rw [h])).symm, Below.refl _ _⟩

theorem eqLk (c d : Lk) (w : World) : (Op.equal 64 (.agg #[.int .i64 c.a, .int .i64 c.b, .int .i64 c.c]) (.agg #[.int .i64 d.a, .int .i64 d.b, .int .i64 d.c])).run Try.prog w = .ok (eqB c d) w := by
  obtain ⟨x, y, z⟩ := c
  obtain ⟨x', y', z'⟩ := d
  have h1 : ∀ a b c, (part 3 #[Value.int .i64 a, .int .i64 b, .int .i64 c] 0).run Try.prog w = .ok (.int .i64 a) w := fun a b c => by kernel_rfl
  have h2 : ∀ a b c, (part 3 #[Value.int .i64 a, .int .i64 b, .int .i64 c] 1).run Try.prog w = .ok (.int .i64 b) w := fun a b c => by kernel_rfl
  have h3 : ∀ a b c, (part 3 #[Value.int .i64 a, .int .i64 b, .int .i64 c] 2).run Try.prog w = .ok (.int .i64 c) w := fun a b c => by kernel_rfl
  have hs : Try.prog.stoodInHeld 64 = false := by kernel_rfl
  have e : ∀ d a b, (Op.equalIn (d+1) 3 (.int .i64 a) (.int .i64 b)).run Try.prog w = .ok (a == b) w := fun d a b => by
    simp [Op.equalIn, run_underlying Try.underlying3]
  have hq : eqB (⟨x, y, z⟩ : Lk) ⟨x', y', z'⟩ = ((x == x') && (y == y') && (z == z')) := by
    by_cases a : x = x'
    · by_cases b : y = y'
      · by_cases c : z = z'
        · subst a; subst b; subst c; rw [eqB_self]; simp
        · rw [eqB_no (fun h => c (by cases h; rfl))]; simp [c]
      · rw [eqB_no (fun h => b (by cases h; rfl))]; simp [b]
    · rw [eqB_no (fun h => a (by cases h; rfl))]; simp [a]
  rw [hq]
  simp only [Op.equal, Op.maxDepth]
  unfold Op.equalIn
  simp [run_underlying Try.underlying64, hs, h1, h2, h3, e]
  by_cases a : x = x' <;> by_cases b : y = y' <;> by_cases c : z = z' <;> simp [a, b, c]
theorem neqLk (c d : Lk) (w : World) : (binOp .neq 64 (.agg #[.int .i64 c.a, .int .i64 c.b, .int .i64 c.c]) (.agg #[.int .i64 d.a, .int .i64 d.b, .int .i64 d.c])).run Try.prog w = .ok (.bool (!eqB c d)) w := by
  simp [binOp, eqLk]
theorem guardLk : Try.prog.eqGuardType Try.prog.depth 64 = false := by kernel_rfl


/-! ### Marks -/
/-- The list that reads k, k+1, k+2, .. -/
def marks : Nat → Int → List Lk
  | 0, _ => []
  | n + 1, k => ⟨k, k + 1, k + 2⟩ :: marks n (k + 3)
theorem marks_len : ∀ (n : Nat) (k : Int), (marks n k).length = n
  | 0, _ => rfl
  | n + 1, k => by simp [marks, marks_len n]
theorem marks_get : ∀ (n : Nat) (k : Int) (i : Nat), i < n → (marks n k)[i]? = some ⟨k + 3 * i, k + 3 * i + 1, k + 3 * i + 2⟩
  | 0, _, i, h => by omega
  | n + 1, k, 0, _ => by simp [marks]
  | n + 1, k, i + 1, h => by
    simp only [marks, List.getElem?_cons_succ]
    rw [marks_get n (k + 3) i (by omega)]
    congr 2 <;> omega

theorem mark_only {w wr : World} {go n cap k : Nat} {a b c : Value} (h : w.grownBy wr (Value.slice (some ⟨go, 0, none⟩) n cap).ownBlock) :
    w.grownBy (((wr.setCell ⟨go, k * 3, none⟩ a).setCell ⟨go, k * 3 + 1, none⟩ b).setCell ⟨go, k * 3 + 2, none⟩ c) (some go) := by
  have h0 : w.grownBy wr (some go) := h
  have h1 := only_setCell h0 (p := ⟨go, k * 3, none⟩) (.inl rfl) a
  have h2 := only_setCell h1 (p := ⟨go, k * 3 + 1, none⟩) (.inl rfl) b
  exact only_setCell h2 (p := ⟨go, k * 3 + 2, none⟩) (.inl rfl) c

set_option maxHeartbeats 800000 in
theorem mark_any (v : Value) (cs : List Lk) (base : Nat) (w : World) (hO : Own lc 64 3 w base v cs) (hn : cs.length ≤ 1048576) :
    Calls Try.prog 80 #[v, .int .i64 1] w fun e w' => e = .returned (.int .i64 (1 + 3 * cs.length)) ∧ Own lc 64 3 w' base v (marks cs.length 1) ∧ w.grownBy w' v.ownBlock := by
  obtain ⟨A, cap, rfl, hc, hr⟩ := hO.slr lc_len
  have HO0 := hide hO
  have HR := hide hr
  clear hr hO
  go_enter Try.func80, Try.ntmps80
  go_wp2
  go_loopg [1, 5] (cs.length) (fun gg kv iv wr => ∃ (k : Nat) (ds : List Lk), k + gg = cs.length ∧ iv = .int .i64 k ∧ kv = .int .i64 (1 + 3 * (k : Int)) ∧ Hid (Own lc 64 3 wr base (.slice A cs.length cap) ds) ∧ ds.length = cs.length ∧
    Hid (∀ i, i < k → ds[i]? = (marks cs.length 1)[i]?) ∧ w.grownBy wr (Value.slice A cs.length cap).ownBlock)
  case atStart => exact ⟨0, cs, by omega, rfl, rfl, HO0, rfl, hide (fun i h => by omega), only_refl _ _⟩
  case round =>
    obtain ⟨k, ds, hk, rfl, rfl, HO, hdl, HV, hgr⟩ := hrel
    have HDL := hide hdl
    clear hdl
    by_cases hlt : k < cs.length
    · obtain ⟨b, off, hA, hb, hrow⟩ := HR.out (by omega)
      obtain ⟨go, cap', hx, hgo1, hgo2⟩ := HO.out.form (by have := HDL.out; omega)
      have hA2 : A = some ⟨go, 0, none⟩ := by injection hx
      subst hA2
      clear hA hb hrow hx HO0 cap'
      have hkd : k < ds.length := by have := HDL.out; omega
      obtain ⟨c, hck⟩ := get_some hkd
      have HC := hide hck
      obtain ⟨⟨u0, q0⟩, z0⟩ := HO.out.slot (k := k) (j := 0) HDL.out.symm hkd (by decide)
      obtain ⟨⟨u1, q1⟩, z1⟩ := HO.out.slot (k := k) (j := 1) HDL.out.symm hkd (by decide)
      obtain ⟨⟨u2, q2⟩, z2⟩ := HO.out.slot (k := k) (j := 2) HDL.out.symm hkd (by decide)
      rw [Nat.add_zero] at q0 z0
      clear hck
      have s1 := HO.out.set lc_len (k := k) (j := 0) (x := c) (y := ⟨1 + 3 * (k : Int), c.b, c.c⟩) (u := .int .i64 (1 + 3 * (k : Int))) HDL.out.symm HC.out (by decide) rfl
      have s2 := s1.set lc_len (k := k) (j := 1) (x := ⟨1 + 3 * (k : Int), c.b, c.c⟩) (y := ⟨1 + 3 * (k : Int), 1 + 3 * (k : Int) + 1, c.c⟩) (u := .int .i64 (1 + 3 * (k : Int) + 1)) (by rw [List.length_set]; exact HDL.out.symm) (by rw [List.getElem?_set_self hkd]) (by decide) rfl
      have s3 := s2.set lc_len (k := k) (j := 2) (x := ⟨1 + 3 * (k : Int), 1 + 3 * (k : Int) + 1, c.c⟩) (y := ⟨1 + 3 * (k : Int), 1 + 3 * (k : Int) + 1, 1 + 3 * (k : Int) + 2⟩) (u := .int .i64 (1 + 3 * (k : Int) + 1 + 1)) (by rw [List.length_set, List.length_set]; exact HDL.out.symm) (by rw [List.getElem?_set_self (by rw [List.length_set]; exact hkd)]) (by decide) (by show lc _ = [_, _, Value.int .i64 (1 + 3 * (k : Int) + 1 + 1)]; rw [show (1 + 3 * (k : Int) + 1 + 1) = 1 + 3 * (k : Int) + 2 from by omega]; rfl)
      have HS := hide s3
      have HG : Hid (w.grownBy (((wr.setCell ⟨go, k * 3, none⟩ (Value.int .i64 (1 + 3 * (k : Int)))).setCell ⟨go, k * 3 + 1, none⟩ (Value.int .i64 (1 + 3 * (k : Int) + 1))).setCell ⟨go, k * 3 + 2, none⟩ (Value.int .i64 (1 + 3 * (k : Int) + 1 + 1))) (some go)) :=
        hide (mark_only hgr)
      have HVN : Hid (∀ i, i < k + 1 → (((ds.set k ⟨1 + 3 * (k : Int), c.b, c.c⟩).set k ⟨1 + 3 * (k : Int), 1 + 3 * (k : Int) + 1, c.c⟩).set k ⟨1 + 3 * (k : Int), 1 + 3 * (k : Int) + 1, 1 + 3 * (k : Int) + 2⟩)[i]? = (marks cs.length 1)[i]?) := hide (fun i hi => by
        rcases Nat.lt_succ_iff_lt_or_eq.1 hi with h | h
        · rw [List.getElem?_set_ne (by omega), List.getElem?_set_ne (by omega), List.getElem?_set_ne (by omega)]
          exact HV.out i h
        · subst h
          rw [List.getElem?_set_self (by simp only [List.length_set]; exact hkd), marks_get _ _ _ hlt])
      have HLN : Hid ((((ds.set k ⟨1 + 3 * (k : Int), c.b, c.c⟩).set k ⟨1 + 3 * (k : Int), 1 + 3 * (k : Int) + 1, c.c⟩).set k ⟨1 + 3 * (k : Int), 1 + 3 * (k : Int) + 1, 1 + 3 * (k : Int) + 2⟩).length = cs.length) := hide (by simp only [List.length_set]; exact HDL.out)
      have HKN : Hid (1 + 3 * (k : Int) + 1 + 1 + 1 = 1 + 3 * ((k + 1 : Nat) : Int)) := hide (by omega)
      clear s1 s2 s3 hgr HV HC
      go_wp2
      go_roundg (gk - 1)
      case measure => omega
      case rel => exact ⟨k + 1, _, by omega, by go_num, congrArg (Value.int .i64) HKN.out, HS, HLN.out, HVN, HG.out⟩
    · have hds : ds = marks cs.length 1 := list_eq (by rw [marks_len]; exact HDL.out) fun i hi => HV.out i (by have := HDL.out; omega)
      have hkk : k = cs.length := by omega
      have HF := hide (hds ▸ HO.out)
      clear hds HO HV
      subst hkk
      go_wp2
      go_ret
      exact ⟨rfl, HF.out, hgr⟩

end Go.Proofs.Ytbhkjeicogjfbaa
