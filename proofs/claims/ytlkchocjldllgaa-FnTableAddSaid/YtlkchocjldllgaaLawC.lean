/- The law FnTableAdd, walked: it returns true for every code. Conditions: none. -/
import Derived.Test.YtlkchocjldllgaaLawA
namespace Go.Proofs.Ytlkchocjldllgaa
open Go.RowKit

theorem eqlRt (c d : Rt) (w : World) : (binOp .eql 40 (.agg #[.int .i64 c.pre, .int .i64 c.bits, .int .i64 c.hop]) (.agg #[.int .i64 d.pre, .int .i64 d.bits, .int .i64 d.hop])).run Try.prog w = .ok (.bool (eqB c d)) w := by
  simp [binOp, eqRt]
/-- Some route of l is r. -/
noncomputable def hasR (l : List Rt) (r : Rt) : Bool := tb (r ∈ l)
theorem hasR_snoc (l : List Rt) (r q : Rt) : hasR (l ++ [q]) r = (hasR l r || eqB q r) := by
  unfold hasR
  by_cases h1 : r ∈ l
  · rw [tb_yes h1, tb_yes (by simp [h1])]; rfl
  · by_cases h2 : q = r
    · rw [tb_no h1, eqB_yes h2, tb_yes (by simp [h2])]; rfl
    · rw [tb_no h1, eqB_no h2, tb_no (by simp [h1, Ne.symm h2])]; rfl
theorem take_snoc {α : Type} {l : List α} {k : Nat} {x : α} (h : l[k]? = some x) : l.take (k + 1) = l.take k ++ [x] := by rw [List.take_add_one, h]; rfl
/-- x of t is in the new table, unless r replaced it. -/
theorem add_kept {t u : Tab} {r : Rt} (h : addT t r = (u, true)) {x : Rt} (hx : x ∈ t.routes) : Ky x r ∨ x ∈ u.routes := by
  obtain ⟨hV, hR, hl, he⟩ := addT_ok (t := t) (r := r) (by rw [h])
  rw [h] at he
  injection he with he _
  subst he
  by_cases hk : Ky x r
  · exact .inl hk
  · exact .inr ((insL_mem hV.vl.pw r x).2 (.inr ⟨hx, hk⟩))
theorem add_facts {t u : Tab} {r : Rt} (h : addT t r = (u, true)) : r ∈ u.routes ∧ TV u ∧ u.routes.length ≤ t.routes.length + 1 := by
  have hok : (addT t r).2 = true := by rw [h]
  obtain ⟨hV, hR, hl, he⟩ := addT_ok hok
  have hV' := addT_tv hok
  rw [h] at he hV'
  injection he with he _
  subst he
  refine ⟨insL_self _ _, hV', ?_⟩
  rcases insL_len_iff hV.vl.pw r with ⟨h1, _⟩ | ⟨h1, _⟩
  · show (insL t.routes r).length ≤ _; omega
  · show (insL t.routes r).length ≤ _; omega
set_option maxRecDepth 100000 in
set_option maxHeartbeats 3200000 in
theorem lawTableAdd (v : Value) (bs : List Int) (w : World) (hv : SlR bc 1 w w.heap.size v bs) (hm : bs.length ≤ 9223372036854775807 ∧ ∀ n ∈ bs, 0 ≤ n ∧ n ≤ 255) :
    Calls Try.prog 14 #[v] w fun e w' => e = .returned (.bool true) ∧ Below w.heap.size w w' := by
  by_cases hl : 1048576 < bs.length
  · obtain ⟨A, cap, rfl, hc, hr⟩ := hv
    clear hr hm
    go_enter Try.func14, Try.ntmps14
    go_wp2
    go_ret
    exact ⟨rfl, Below.refl _ _⟩
  have hvv := hv
  obtain ⟨A, cap, rfl, hc, hr⟩ := hvv
  have HM := hide hm
  clear hm hr hc
  go_enter Try.func14, Try.ntmps14
  go_wp2_with fail
  refine (drawAdd_any _ bs _ hv HM.out).mono ?_
  rintro e w1 ⟨x, rv, t, rfl, ⟨r, rfl⟩, hT0, ⟨hl1, hl2⟩, hb1⟩
  have hT1 := hT0 w1 (Kept.refl _ _)
  clear hT0
  have hn : t.routes.length ≤ 1048576 ∧ t.hops.length ≤ 1048576 := by omega
  have hT1' := hT1
  obtain ⟨x1, x2, rfl, hx1, hx2⟩ := hT1'
  obtain ⟨A1, c1, rfl, hc1⟩ := hx1.form
  obtain ⟨A2, c2, rfl, hc2⟩ := hx2.form
  obtain ⟨X, hX⟩ : ∃ X, X = w1.heap.size := ⟨_, rfl⟩
  obtain ⟨w2, hw2⟩ : ∃ w2, w2 = (w1.alloc (Obj.cells #[.slice A1 t.routes.length c1, .slice A2 t.hops.length c2] 30)).alloc (Obj.cells #[.int .i64 r.pre, .int .i64 r.bits, .int .i64 r.hop] 40) := ⟨_, rfl⟩
  have h12 : Below w1.heap.size w1 w2 := by rw [hw2]; exact below2 _ _ _
  have HX2 := hide (show Blk w2 X 30 #[.slice A1 t.routes.length c1, .slice A2 t.hops.length c2] from by rw [hw2, hX]; exact (Blk.new _ _ _).alloc _)
  have HQ2 := hide (show Blk w2 (X + 1) 40 #[.int .i64 r.pre, .int .i64 r.bits, .int .i64 r.hop] from by
    rw [hw2, hX]
    have h := Blk.new (w1.alloc (Obj.cells #[.slice A1 t.routes.length c1, .slice A2 t.hops.length c2] 30)) 40 #[.int .i64 r.pre, .int .i64 r.bits, .int .i64 r.hop]
    simpa using h)
  have hb2 := hb1.trans (h12.mono hb1.size)
  have hT2 := hT1.up h12
  clear hx1 hx2 hT1 hb1 h12 HM
  go_wp2_with fail
  rw [← hw2, ← hX]
  clear hw2 hX
  obtain ⟨u, k, hTT⟩ : ∃ u k, addT t r = (u, k) := ⟨_, _, rfl⟩
  have hun := addT_lens t r hn
  rw [hTT] at hun
  have HTT := hide hTT
  clear hTT
  refine (add_u _ t r u k _ HTT.out hT2 hn).mono ?_
  rintro e w3 ⟨g, rfl, hO3, hb3⟩
  have hG3 := hO3.tbr
  obtain ⟨A3, n3, k3, A4, n4, k4, rfl⟩ := hO3.lit
  obtain ⟨G, hG⟩ : ∃ G, G = w3.heap.size := ⟨_, rfl⟩
  obtain ⟨w4, hw4⟩ : ∃ w4, w4 = w3.alloc (Obj.cells #[.slice A3 n3 k3, .slice A4 n4 k4] 30) := ⟨_, rfl⟩
  have h34 : Below w3.heap.size w3 w4 := by rw [hw4]; exact below1 _ _
  have HG4 := hide (show Blk w4 G 30 #[.slice A3 n3 k3, .slice A4 n4 k4] from by rw [hw4, hG]; exact Blk.new _ _ _)
  have hb24 := hb3.trans (h34.mono hb3.size)
  have a0 := (HX2.out.up hb24).cell 0
  have a1 := (HX2.out.up hb24).cell 1
  have a6 := (HQ2.out.up hb24).cell 0
  have a7 := (HQ2.out.up hb24).cell 1
  have a8 := (HQ2.out.up hb24).cell 2
  have hT4 := hT2.up hb24
  have hG4 := hG3.up h34
  clear hO3 hG3 hT2 hb3 h34
  rw [hw4] at a0 a1 a6 a7 a8
  go_wp2_with fail
  clear a0 a1 a6 a7 a8
  rw [← hw4, ← hG]
  clear hw4 hG
  refine (specAdd_u _ t r u k _ HTT.out hT4 hn).mono ?_
  rintro e w5 ⟨y, rfl, hO5, hb5⟩
  have hY5 := hO5.tbr
  obtain ⟨A5, n5, k5, A6, n6, k6, rfl⟩ := hO5.lit
  obtain ⟨Y, hY⟩ : ∃ Y, Y = w5.heap.size := ⟨_, rfl⟩
  obtain ⟨w6, hw6⟩ : ∃ w6, w6 = w5.alloc (Obj.cells #[.slice A5 n5 k5, .slice A6 n6 k6] 30) := ⟨_, rfl⟩
  have h56 : Below w5.heap.size w5 w6 := by rw [hw6]; exact below1 _ _
  have L6 : Lx w2 w6 X G Y #[.slice A1 t.routes.length c1, .slice A2 t.hops.length c2] #[.slice A3 n3 k3, .slice A4 n4 k4] #[.slice A5 n5 k5, .slice A6 n6 k6] (.agg #[.slice A1 t.routes.length c1, .slice A2 t.hops.length c2]) (.agg #[.slice A3 n3 k3, .slice A4 n4 k4]) (.agg #[.slice A5 n5 k5, .slice A6 n6 k6]) t u :=
    ⟨(hb24.trans (hb5.mono hb24.size)).trans (h56.mono (Nat.le_trans hb24.size hb5.size)), ((HX2.out.up hb24).up hb5).up h56, (HG4.out.up hb5).up h56, by rw [hw6, hY]; exact Blk.new _ _ _, (hT4.up hb5).up h56, (hG4.up hb5).up h56, hY5.up h56⟩
  have L6 := hide L6
  clear hO5 hY5 hT4 hG4 HX2 HG4 hb5 h56 hb24
  have hne : (k != k) = false := by simp
  have heq : (k == k) = true := by simp
  have a2 := L6.out.t6.cell 0
  have a3 := L6.out.t6.cell 1
  have a4 := L6.out.t8.cell 0
  have a5 := L6.out.t8.cell 1
  rw [hw6] at a2 a3 a4 a5
  rw [hY] at a4 a5
  go_wp2_with fail
  clear a2 a3 a4 a5
  rw [← hw6, ← hY]
  clear hw6 hY
  refine (sameT_any _ _ u u _ L6.out.hg L6.out.hy hun hun).mono ?_
  rintro e w7 ⟨rfl, hb7⟩
  rw [eqB_self]
  have L7 := hide (L6.out.below hb7)
  clear L6 hb7
  have a2 := L7.out.t6.cell 0
  have a3 := L7.out.t6.cell 1
  have a4 := L7.out.t8.cell 0
  have a5 := L7.out.t8.cell 1
  have hGs := L7.out.hg
  obtain ⟨A3', A3c, A3e, _, A3r⟩ := hGs.slr1 rfl
  injection A3e with A3e1 A3e2 A3e3
  subst A3e1; subst A3e2; subst A3e3
  clear hGs A3r
  cases k with
  | false =>
    go_wp2_with fail
    refine (sameT_any _ _ u u _ L7.out.hg L7.out.hy hun hun).mono ?_
    rintro e w8 ⟨rfl, hb8⟩
    rw [eqB_self]
    have hbf := L7.out.bw.trans (hb8.mono L7.out.bw.size)
    go_wp2
    go_ret
    exact ⟨rfl, hb2.trans (hbf.mono hb2.size)⟩
  | true =>
    obtain ⟨f1, f2, f3⟩ := add_facts HTT.out
    have F1 := hide f1
    have F2 := hide f2
    clear f1 f2 a2 a3 a4 a5
    obtain ⟨wb, hwb⟩ : ∃ wb, wb = w7 := ⟨_, rfl⟩
    subst hwb
    have hun1 := hun.1
    go_wp2
    go_loopg [9, 10] (u.routes.length) (fun g fv iv wr => ∃ (k : Nat) (f : Bool), k + g = u.routes.length ∧ iv = .int .i64 k ∧ fv = .bool f ∧ Below wb.heap.size wb wr ∧ Hid (f = hasR (u.routes.take k) r))
    case atStart => exact ⟨0, false, by omega, rfl, rfl, Below.refl _ _, hide (by rw [List.take_zero]; exact (tb_no (by simp)).symm)⟩
    case round =>
      obtain ⟨k, f, hk, rfl, rfl, hbe, HF⟩ := hrel
      have L8 := hide (L7.out.below hbe)
      have a2 := L8.out.t6.cell 0
      have a3 := L8.out.t6.cell 1
      by_cases hlt : k < u.routes.length
      · obtain ⟨b, off, rfl, hb, hcell⟩ : ∃ b off, A3 = some ⟨b, off, none⟩ ∧ b < wr.heap.size ∧ RowsAt rc 3 wr b off u.routes := by
          obtain ⟨A', c', hA, _, hr⟩ := L8.out.hg.slr1 rfl
          injection hA with hA _ _
          subst hA
          exact hr (by omega)
        obtain ⟨q, hq⟩ := get_some hlt
        obtain ⟨g1, g2, g3⟩ := routeAt hcell hq
        have HQK : Hid (hasR (u.routes.take (k + 1)) r = (f || eqB q r)) := hide (by rw [take_snoc hq, hasR_snoc, HF.out])
        clear hq HF
        have a6 := (HQ2.out.up L8.out.bw).cell 0
        have a7 := (HQ2.out.up L8.out.bw).cell 1
        have a8 := (HQ2.out.up L8.out.bw).cell 2
        go_upto_region 12 with fail
        have e1 := fun y => wext_cell wr y a2
        have e2 := fun y => wext_cell wr y a6
        have e3 := fun y => wext_cell wr y a7
        have e4 := fun y => wext_cell wr y a8
        have e5 := fun y => wext_cell wr y g1
        have e6 := fun y => wext_cell wr y g2
        have e7 := fun y => wext_cell wr y g3
        have heql := eqlRt q r
        have hgd := guardRt
        cases f with
        | true =>
          refine region_q (by kernel_rfl) (by kernel_rfl) ?_
          repeat (go_big_quiet_step ((first | (fail))))
          refine wpQuiet_nil ?_
          intro wx hbx
          clear e1 e2 e3 e4 e5 e6 e7 a2 a3 a6 a7 a8 g1 g2 g3 heql hgd
          go_wp2
          go_roundg (gk - 1)
          case measure => omega
          case rel => exact ⟨k + 1, true, by omega, by go_num, rfl, hbe.trans (hbx.mono hbe.size), hide (by rw [HQK.out]; rfl)⟩
        | false =>
          refine region_q (by kernel_rfl) (by kernel_rfl) ?_
          repeat (go_big_quiet_step ((first | (fail))))
          refine wpQuiet_nil ?_
          intro wx hbx
          clear e1 e2 e3 e4 e5 e6 e7 a2 a3 a6 a7 a8 g1 g2 g3 heql hgd
          go_wp2
          go_roundg (gk - 1)
          case measure => omega
          case rel => exact ⟨k + 1, eqB q r, by omega, by go_num, rfl, hbe.trans (hbx.mono hbe.size), hide (by rw [HQK.out]; rfl)⟩
      · have hf : f = true := by rw [HF.out, List.take_of_length_le (by omega)]; exact tb_yes F1.out
        subst hf
        clear HF F1
        obtain ⟨wo, hwo⟩ : ∃ wo, wo = wr := ⟨_, rfl⟩
        subst hwo
        go_wp2
        clear hk hlt a2 a3
        go_loopg [11] (t.routes.length) (fun g iv wr => ∃ k : Nat, k + g = t.routes.length ∧ iv = .int .i64 k ∧ Below wb.heap.size wb wr)
        case atStart => exact ⟨0, by omega, rfl, hbe⟩
        case round =>
          clear hbe L8
          obtain ⟨i, hi, rfl, hbe⟩ := hrel
          have L8 := hide (L7.out.below hbe)
          by_cases hlt : i < t.routes.length
          · have a0 := L8.out.t3.cell 0
            have a1 := L8.out.t3.cell 1
            obtain ⟨b, off, rfl, hb, hcell⟩ : ∃ b off, A1 = some ⟨b, off, none⟩ ∧ b < wr.heap.size ∧ RowsAt rc 3 wr b off t.routes := by
              obtain ⟨A', c', hA, _, hr⟩ := L8.out.hx.slr1 rfl
              injection hA with hA _ _
              subst hA
              exact hr (by omega)
            obtain ⟨x, hx⟩ := get_some hlt
            obtain ⟨g1, g2, g3⟩ := routeAt hcell hx
            have HK := hide (add_kept HTT.out (List.mem_of_getElem? hx))
            clear hx
            go_upto_region 17 with fail
            obtain ⟨wi, hwi⟩ : ∃ wi, wi = wr.alloc (Obj.cells #[.int .i64 x.pre, .int .i64 x.bits, .int .i64 x.hop] 40) := ⟨_, rfl⟩
            have hri : Below wr.heap.size wr wi := by rw [hwi]; exact below1 _ _
            have HX : Hid (Blk wi wr.heap.size 40 #[.int .i64 x.pre, .int .i64 x.bits, .int .i64 x.hop]) := hide (by rw [hwi]; exact Blk.new _ _ _)
            have hbi := hbe.trans (hri.mono hbe.size)
            have LI := hide (L8.out.below hri)
            rw [← hwi]
            clear hwi hri hbe L8 a0 a1 g1 g2 g3 hcell hb
            obtain ⟨wu, hwu⟩ : ∃ wu, wu = wr := ⟨_, rfl⟩
            subst hwu
            obtain ⟨gko, hgko⟩ : ∃ g, g = gk := ⟨_, rfl⟩
            subst hgko
            have x0 := HX.out.cell 0
            have x1 := HX.out.cell 1
            have a6 := (HQ2.out.up LI.out.bw).cell 0
            have a7 := (HQ2.out.up LI.out.bw).cell 1
            have a8 := (HQ2.out.up LI.out.bw).cell 2
            by_cases hp : x.pre = r.pre
            · have p1 : (x.pre == r.pre) = true := by simp [hp]
              by_cases hq : x.bits = r.bits
              · have p2 : (x.bits == r.bits) = true := by simp [hq]
                have HF0 : Hid (true = true ∨ x ∈ u.routes) := hide (.inl rfl)
                clear hp hq HK
                go_wp2
                clear x0 x1 a6 a7 a8
                go_loopg [13, 14] (u.routes.length) (fun g fv jv wr => ∃ (k : Nat) (f : Bool), k + g = u.routes.length ∧ jv = .int .i64 k ∧ fv = .bool f ∧ Below wi.heap.size wi wr ∧ Hid (f = (true || hasR (u.routes.take k) x)))
                case atStart => exact ⟨0, true, by omega, rfl, rfl, Below.refl _ _, hide (by rw [List.take_zero]; simp [hasR, tb_no])⟩
                case round =>
                  obtain ⟨k, f, hk, rfl, rfl, hbj, HF⟩ := hrel
                  have LJ := hide (LI.out.below hbj)
                  have hbr := hbi.trans (hbj.mono hbi.size)
                  have a2 := LJ.out.t6.cell 0
                  have a3 := LJ.out.t6.cell 1
                  by_cases hlk : k < u.routes.length
                  · obtain ⟨b', off', rfl, hb', hcell'⟩ : ∃ b off, A3 = some ⟨b, off, none⟩ ∧ b < wr.heap.size ∧ RowsAt rc 3 wr b off u.routes := by
                      obtain ⟨A', c', hA, _, hr⟩ := LJ.out.hg.slr1 rfl
                      injection hA with hA _ _
                      subst hA
                      exact hr (by omega)
                    obtain ⟨q, hq⟩ := get_some hlk
                    obtain ⟨g1, g2, g3⟩ := routeAt hcell' hq
                    have HQK : Hid ((true || hasR (u.routes.take (k + 1)) x) = (f || eqB q x)) := hide (by rw [take_snoc hq, hasR_snoc, HF.out, Bool.or_assoc])
                    clear hq HF
                    have x0 := (HX.out.up hbj).cell 0
                    have x1 := (HX.out.up hbj).cell 1
                    have x2 := (HX.out.up hbj).cell 2
                    go_upto_region 21 with fail
                    have e1 := fun y => wext_cell wr y a2
                    have e2 := fun y => wext_cell wr y x0
                    have e3 := fun y => wext_cell wr y x1
                    have e4 := fun y => wext_cell wr y x2
                    have e5 := fun y => wext_cell wr y g1
                    have e6 := fun y => wext_cell wr y g2
                    have e7 := fun y => wext_cell wr y g3
                    have heql := eqlRt q x
                    have hgd := guardRt
                    cases f with
                    | true =>
                      refine region_q (by kernel_rfl) (by kernel_rfl) ?_
                      repeat (go_big_quiet_step ((first | (fail))))
                      refine wpQuiet_nil ?_
                      intro wx hbx
                      clear e1 e2 e3 e4 e5 e6 e7 a2 a3 x0 x1 x2 g1 g2 g3 heql hgd
                      go_wp2
                      go_roundg (gk - 1)
                      case measure => omega
                      case rel => exact ⟨k + 1, true, by omega, by go_num, rfl, hbj.trans (hbx.mono hbj.size), hide (by rw [HQK.out]; rfl)⟩
                    | false =>
                      refine region_q (by kernel_rfl) (by kernel_rfl) ?_
                      repeat (go_big_quiet_step ((first | (fail))))
                      refine wpQuiet_nil ?_
                      intro wx hbx
                      clear e1 e2 e3 e4 e5 e6 e7 a2 a3 x0 x1 x2 g1 g2 g3 heql hgd
                      go_wp2
                      go_roundg (gk - 1)
                      case measure => omega
                      case rel => exact ⟨k + 1, eqB q x, by omega, by go_num, rfl, hbj.trans (hbx.mono hbj.size), hide (by rw [HQK.out]; rfl)⟩
                  · have hf : f = true := by
                      rw [HF.out, List.take_of_length_le (by omega)]
                      rcases HF0.out with h | h
                      · first | rfl | cases h
                      · rw [show hasR u.routes x = true from tb_yes h, Bool.or_true]
                    subst hf
                    clear HF
                    go_wp2
                    go_roundg (gko - 1)
                    case measure => omega
                    case rel => exact ⟨i + 1, by omega, by go_num, hbr⟩
              · have p2 : (x.bits == r.bits) = false := by simp [hq]
                have HF0 : Hid (false = true ∨ x ∈ u.routes) := hide (HK.out.elim (fun h => absurd h.2 hq) .inr)
                clear hp hq HK
                go_wp2
                clear x0 x1 a6 a7 a8
                go_loopg [13, 14] (u.routes.length) (fun g fv jv wr => ∃ (k : Nat) (f : Bool), k + g = u.routes.length ∧ jv = .int .i64 k ∧ fv = .bool f ∧ Below wi.heap.size wi wr ∧ Hid (f = (false || hasR (u.routes.take k) x)))
                case atStart => exact ⟨0, false, by omega, rfl, rfl, Below.refl _ _, hide (by rw [List.take_zero]; simp [hasR, tb_no])⟩
                case round =>
                  obtain ⟨k, f, hk, rfl, rfl, hbj, HF⟩ := hrel
                  have LJ := hide (LI.out.below hbj)
                  have hbr := hbi.trans (hbj.mono hbi.size)
                  have a2 := LJ.out.t6.cell 0
                  have a3 := LJ.out.t6.cell 1
                  by_cases hlk : k < u.routes.length
                  · obtain ⟨b', off', rfl, hb', hcell'⟩ : ∃ b off, A3 = some ⟨b, off, none⟩ ∧ b < wr.heap.size ∧ RowsAt rc 3 wr b off u.routes := by
                      obtain ⟨A', c', hA, _, hr⟩ := LJ.out.hg.slr1 rfl
                      injection hA with hA _ _
                      subst hA
                      exact hr (by omega)
                    obtain ⟨q, hq⟩ := get_some hlk
                    obtain ⟨g1, g2, g3⟩ := routeAt hcell' hq
                    have HQK : Hid ((false || hasR (u.routes.take (k + 1)) x) = (f || eqB q x)) := hide (by rw [take_snoc hq, hasR_snoc, HF.out, Bool.or_assoc])
                    clear hq HF
                    have x0 := (HX.out.up hbj).cell 0
                    have x1 := (HX.out.up hbj).cell 1
                    have x2 := (HX.out.up hbj).cell 2
                    go_upto_region 21 with fail
                    have e1 := fun y => wext_cell wr y a2
                    have e2 := fun y => wext_cell wr y x0
                    have e3 := fun y => wext_cell wr y x1
                    have e4 := fun y => wext_cell wr y x2
                    have e5 := fun y => wext_cell wr y g1
                    have e6 := fun y => wext_cell wr y g2
                    have e7 := fun y => wext_cell wr y g3
                    have heql := eqlRt q x
                    have hgd := guardRt
                    cases f with
                    | true =>
                      refine region_q (by kernel_rfl) (by kernel_rfl) ?_
                      repeat (go_big_quiet_step ((first | (fail))))
                      refine wpQuiet_nil ?_
                      intro wx hbx
                      clear e1 e2 e3 e4 e5 e6 e7 a2 a3 x0 x1 x2 g1 g2 g3 heql hgd
                      go_wp2
                      go_roundg (gk - 1)
                      case measure => omega
                      case rel => exact ⟨k + 1, true, by omega, by go_num, rfl, hbj.trans (hbx.mono hbj.size), hide (by rw [HQK.out]; rfl)⟩
                    | false =>
                      refine region_q (by kernel_rfl) (by kernel_rfl) ?_
                      repeat (go_big_quiet_step ((first | (fail))))
                      refine wpQuiet_nil ?_
                      intro wx hbx
                      clear e1 e2 e3 e4 e5 e6 e7 a2 a3 x0 x1 x2 g1 g2 g3 heql hgd
                      go_wp2
                      go_roundg (gk - 1)
                      case measure => omega
                      case rel => exact ⟨k + 1, eqB q x, by omega, by go_num, rfl, hbj.trans (hbx.mono hbj.size), hide (by rw [HQK.out]; rfl)⟩
                  · have hf : f = true := by
                      rw [HF.out, List.take_of_length_le (by omega)]
                      rcases HF0.out with h | h
                      · first | rfl | cases h
                      · rw [show hasR u.routes x = true from tb_yes h, Bool.or_true]
                    subst hf
                    clear HF
                    go_wp2
                    go_roundg (gko - 1)
                    case measure => omega
                    case rel => exact ⟨i + 1, by omega, by go_num, hbr⟩
            · have p1 : (x.pre == r.pre) = false := by simp [hp]
              have HF0 : Hid (false = true ∨ x ∈ u.routes) := hide (HK.out.elim (fun h => absurd h.1 hp) .inr)
              clear hp HK
              go_wp2
              clear x0 x1 a6 a7 a8
              go_loopg [13, 14] (u.routes.length) (fun g fv jv wr => ∃ (k : Nat) (f : Bool), k + g = u.routes.length ∧ jv = .int .i64 k ∧ fv = .bool f ∧ Below wi.heap.size wi wr ∧ Hid (f = (false || hasR (u.routes.take k) x)))
              case atStart => exact ⟨0, false, by omega, rfl, rfl, Below.refl _ _, hide (by rw [List.take_zero]; simp [hasR, tb_no])⟩
              case round =>
                obtain ⟨k, f, hk, rfl, rfl, hbj, HF⟩ := hrel
                have LJ := hide (LI.out.below hbj)
                have hbr := hbi.trans (hbj.mono hbi.size)
                have a2 := LJ.out.t6.cell 0
                have a3 := LJ.out.t6.cell 1
                by_cases hlk : k < u.routes.length
                · obtain ⟨b', off', rfl, hb', hcell'⟩ : ∃ b off, A3 = some ⟨b, off, none⟩ ∧ b < wr.heap.size ∧ RowsAt rc 3 wr b off u.routes := by
                    obtain ⟨A', c', hA, _, hr⟩ := LJ.out.hg.slr1 rfl
                    injection hA with hA _ _
                    subst hA
                    exact hr (by omega)
                  obtain ⟨q, hq⟩ := get_some hlk
                  obtain ⟨g1, g2, g3⟩ := routeAt hcell' hq
                  have HQK : Hid ((false || hasR (u.routes.take (k + 1)) x) = (f || eqB q x)) := hide (by rw [take_snoc hq, hasR_snoc, HF.out, Bool.or_assoc])
                  clear hq HF
                  have x0 := (HX.out.up hbj).cell 0
                  have x1 := (HX.out.up hbj).cell 1
                  have x2 := (HX.out.up hbj).cell 2
                  go_upto_region 21 with fail
                  have e1 := fun y => wext_cell wr y a2
                  have e2 := fun y => wext_cell wr y x0
                  have e3 := fun y => wext_cell wr y x1
                  have e4 := fun y => wext_cell wr y x2
                  have e5 := fun y => wext_cell wr y g1
                  have e6 := fun y => wext_cell wr y g2
                  have e7 := fun y => wext_cell wr y g3
                  have heql := eqlRt q x
                  have hgd := guardRt
                  cases f with
                  | true =>
                    refine region_q (by kernel_rfl) (by kernel_rfl) ?_
                    repeat (go_big_quiet_step ((first | (fail))))
                    refine wpQuiet_nil ?_
                    intro wx hbx
                    clear e1 e2 e3 e4 e5 e6 e7 a2 a3 x0 x1 x2 g1 g2 g3 heql hgd
                    go_wp2
                    go_roundg (gk - 1)
                    case measure => omega
                    case rel => exact ⟨k + 1, true, by omega, by go_num, rfl, hbj.trans (hbx.mono hbj.size), hide (by rw [HQK.out]; rfl)⟩
                  | false =>
                    refine region_q (by kernel_rfl) (by kernel_rfl) ?_
                    repeat (go_big_quiet_step ((first | (fail))))
                    refine wpQuiet_nil ?_
                    intro wx hbx
                    clear e1 e2 e3 e4 e5 e6 e7 a2 a3 x0 x1 x2 g1 g2 g3 heql hgd
                    go_wp2
                    go_roundg (gk - 1)
                    case measure => omega
                    case rel => exact ⟨k + 1, eqB q x, by omega, by go_num, rfl, hbj.trans (hbx.mono hbj.size), hide (by rw [HQK.out]; rfl)⟩
                · have hf : f = true := by
                    rw [HF.out, List.take_of_length_le (by omega)]
                    rcases HF0.out with h | h
                    · first | rfl | cases h
                    · rw [show hasR u.routes x = true from tb_yes h, Bool.or_true]
                  subst hf
                  clear HF
                  go_wp2
                  go_roundg (gko - 1)
                  case measure => omega
                  case rel => exact ⟨i + 1, by omega, by go_num, hbr⟩
          · have a0 := L8.out.t3.cell 0
            have a1 := L8.out.t3.cell 1
            have a2 := L8.out.t6.cell 0
            have a3 := L8.out.t6.cell 1
            go_wp2_with fail
            refine (tableValid_any _ u _ L8.out.hg hun).mono ?_
            rintro e w9 ⟨rfl, hb9⟩
            rw [tb_yes F2.out]
            have L9 := hide (L8.out.below hb9)
            clear L8 a0 a1 a2 a3 hb9
            have a0 := L9.out.t3.cell 0
            have a1 := L9.out.t3.cell 1
            have a2 := L9.out.t6.cell 0
            have a3 := L9.out.t6.cell 1
            have hle : (u.routes.length : Int) ≤ (t.routes.length : Int) + 1 := by omega
            have hbw := L9.out.bw
            go_wp2
            go_ret
            exact ⟨rfl, hb2.trans (hbw.mono hb2.size)⟩
end Go.Proofs.Ytlkchocjldllgaa
