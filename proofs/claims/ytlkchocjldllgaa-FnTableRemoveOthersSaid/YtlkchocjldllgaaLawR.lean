/- The laws FnTableRemoveOthers, FnTableRemove, walked: each returns true for every code. Conditions: none. -/
import Derived.Test.YtlkchocjldllgaaExactR
import Derived.Test.YtlkchocjldllgaaExactA
import Derived.Test.YtlkchocjldllgaaLawB
import Derived.Test.YtlkchocjldllgaaDrawW
namespace Go.Proofs.Ytlkchocjldllgaa
open Go.RowKit

set_option maxRecDepth 100000 in
set_option maxHeartbeats 1600000 in
theorem lawTableRemoveOthers (v : Value) (bs : List Int) (v' : Value) (cs : List Int) (w : World) (hv : SlR bc 1 w w.heap.size v bs) (hm : bs.length ≤ 9223372036854775807 ∧ ∀ n ∈ bs, 0 ≤ n ∧ n ≤ 255)
    (hv' : SlR bc 1 w w.heap.size v' cs) (hm' : cs.length ≤ 9223372036854775807 ∧ ∀ n ∈ cs, 0 ≤ n ∧ n ≤ 255) :
    Calls Try.prog 12 #[v, v'] w fun e w' => e = .returned (.bool true) ∧ Below w.heap.size w w' := by
  have hvv := hv
  obtain ⟨A, cap, rfl, hc, hr⟩ := hvv
  have hvw := hv'
  obtain ⟨A', cap', rfl, hc', hr'⟩ := hvw
  have HM := hide hm
  have HM' := hide hm'
  have hm1 := hm.1
  have hm1' := hm'.1
  clear hm hm' hr hr' hc hc'
  by_cases hl : 1048576 < bs.length
  · go_enter Try.func12, Try.ntmps12
    go_wp2
    go_ret
    exact ⟨rfl, Below.refl _ _⟩
  by_cases hl' : 1048576 < cs.length
  · go_enter Try.func12, Try.ntmps12
    go_wp2
    go_ret
    exact ⟨rfl, Below.refl _ _⟩
  go_enter Try.func12, Try.ntmps12
  go_wp2_with fail
  refine (drawRemove_any _ bs _ hv HM.out).mono ?_
  rintro e w1 ⟨x, h, n, t, rfl, hT0, ⟨hl1, hl2⟩, hb1⟩
  have hT1 := hT0 w1 (Kept.refl _ _)
  clear hT0
  have hn : t.routes.length ≤ 1048576 ∧ t.hops.length ≤ 1048576 := by omega
  have hT1' := hT1
  obtain ⟨x1, x2, rfl, hx1, hx2⟩ := hT1'
  obtain ⟨A1, c1, rfl, hc1⟩ := hx1.form
  obtain ⟨A2, c2, rfl, hc2⟩ := hx2.form
  obtain ⟨X, hX⟩ : ∃ X, X = w1.heap.size := ⟨_, rfl⟩
  obtain ⟨w2, hw2⟩ : ∃ w2, w2 = w1.alloc (Obj.cells #[.slice A1 t.routes.length c1, .slice A2 t.hops.length c2] 30) := ⟨_, rfl⟩
  have h12 : Below w1.heap.size w1 w2 := by rw [hw2]; exact below1 _ _
  have HX2 := hide (show Blk w2 X 30 #[.slice A1 t.routes.length c1, .slice A2 t.hops.length c2] from by rw [hw2, hX]; exact Blk.new _ _ _)
  have hb2 := hb1.trans (h12.mono hb1.size)
  have hT2 := hT1.up h12
  clear hx1 hx2 hT1 hb1 h12 HM
  go_wp2_with fail
  rw [← hw2, ← hX]
  clear hw2 hX
  obtain ⟨u, k, hTT⟩ : ∃ u k, remT t h n = (u, k) := ⟨_, _, rfl⟩
  have hul := remT_lens t h n
  rw [hTT] at hul
  have hun : u.routes.length ≤ 1048576 ∧ u.hops.length ≤ 1048576 := ⟨Nat.le_trans hul.1 hn.1, Nat.le_trans hul.2 hn.2⟩
  have HTT := hide hTT
  clear hTT hul
  refine (remove_u _ t h n u k _ HTT.out hT2 hn).mono ?_
  rintro e w3 ⟨g, rfl, hO3, hb3⟩
  have hG3 := hO3.tbr
  obtain ⟨A3, n3, k3, A4, n4, k4, rfl⟩ := hO3.lit
  obtain ⟨G, hG⟩ : ∃ G, G = w3.heap.size := ⟨_, rfl⟩
  obtain ⟨w4, hw4⟩ : ∃ w4, w4 = w3.alloc (Obj.cells #[.slice A3 n3 k3, .slice A4 n4 k4] 30) := ⟨_, rfl⟩
  have h34 : Below w3.heap.size w3 w4 := by rw [hw4]; exact below1 _ _
  have HG4 := hide (show Blk w4 G 30 #[.slice A3 n3 k3, .slice A4 n4 k4] from by rw [hw4, hG]; exact Blk.new _ _ _)
  have HX4 := hide ((HX2.out.up hb3).up h34)
  have a0 := HX4.out.cell 0
  have a1 := HX4.out.cell 1
  have hT4 := (hT2.up hb3).up h34
  have hG4 := hG3.up h34
  have hb24 := hb3.trans (h34.mono hb3.size)
  clear hO3 hG3 hT2 HX2 hb3 h34
  rw [hw4] at a0 a1
  go_wp2_with fail
  clear a0 a1
  rw [← hw4, ← hG]
  clear hw4 hG
  refine (specRemove_u _ t h n u k _ HTT.out hT4 hn).mono ?_
  rintro e w5 ⟨y, rfl, hO5, hb5⟩
  have hY5 := hO5.tbr
  obtain ⟨A5, n5, k5, A6, n6, k6, rfl⟩ := hO5.lit
  obtain ⟨Y, hY⟩ : ∃ Y, Y = w5.heap.size := ⟨_, rfl⟩
  obtain ⟨w6, hw6⟩ : ∃ w6, w6 = w5.alloc (Obj.cells #[.slice A5 n5 k5, .slice A6 n6 k6] 30) := ⟨_, rfl⟩
  have h56 : Below w5.heap.size w5 w6 := by rw [hw6]; exact below1 _ _
  have L6 : Lx w2 w6 X G Y #[.slice A1 t.routes.length c1, .slice A2 t.hops.length c2] #[.slice A3 n3 k3, .slice A4 n4 k4] #[.slice A5 n5 k5, .slice A6 n6 k6] (.agg #[.slice A1 t.routes.length c1, .slice A2 t.hops.length c2]) (.agg #[.slice A3 n3 k3, .slice A4 n4 k4]) (.agg #[.slice A5 n5 k5, .slice A6 n6 k6]) t u :=
    ⟨(hb24.trans (hb5.mono hb24.size)).trans (h56.mono (Nat.le_trans hb24.size hb5.size)), (HX4.out.up hb5).up h56, (HG4.out.up hb5).up h56, by rw [hw6, hY]; exact Blk.new _ _ _, (hT4.up hb5).up h56, (hG4.up hb5).up h56, hY5.up h56⟩
  have L6 := hide L6
  clear hO5 hY5 hT4 hG4 HX4 HG4 hb24 hb5 h56
  have hne : (k != k) = false := by simp
  have heq : (k == k) = true := by simp
  have a2 := L6.out.t6.cell 0
  have a3 := L6.out.t6.cell 1
  have a4 := L6.out.t8.cell 0
  have a5 := L6.out.t8.cell 1
  rw [hw6] at a2 a3 a4 a5
  rw [hY] at a4 a5
  go_wp2_with fail
  clear a2 a3 a4 a5
  rw [← hw6, ← hY]
  clear hw6 hY
  refine (sameT_any _ _ u u _ L6.out.hg L6.out.hy hun hun).mono ?_
  rintro e w7 ⟨rfl, hb7⟩
  rw [eqB_self]
  have L7 := hide (L6.out.below hb7)
  clear L6 hb7
  have a2 := L7.out.t6.cell 0
  have a3 := L7.out.t6.cell 1
  have a4 := L7.out.t8.cell 0
  have a5 := L7.out.t8.cell 1
  cases k with
  | false =>
    go_wp2_with fail
    refine (sameT_any _ _ u u _ L7.out.hg L7.out.hy hun hun).mono ?_
    rintro e w8 ⟨rfl, hb8⟩
    rw [eqB_self]
    have hbf := L7.out.bw.trans (hb8.mono L7.out.bw.size)
    go_wp2
    go_ret
    exact ⟨rfl, hb2.trans (hbf.mono hb2.size)⟩
  | true =>
    obtain ⟨hV, kq, q, hkq, hq1, hq2⟩ := rem_found (t := t) (p := h) (b := n) (by rw [HTT.out])
    have hRV := hV.vl.rv q (List.mem_of_getElem? hkq)
    obtain ⟨a, ha⟩ : ∃ a : Int, a = (cs.length : Int) * 13 % 256 := ⟨_, rfl⟩
    have ha0 : 0 ≤ a ∧ a ≤ 255 := by omega
    obtain ⟨hp, hh⟩ := hpR_ex u a
    have hh' : ¬ Mt ⟨h, n, 0⟩ a → HpR t a hp := fun hno => by
      obtain ⟨h', hh'⟩ := hpR_ex t a
      have := hop_rem hV ha0 hno (by rw [HTT.out]; exact hh) hh'
      rw [this]
      exact hh'
    have HH := hide hh
    have HH' := hide hh'
    have HR : Hid ((0 ≤ n ∧ n ≤ 8) ∧ (0 ≤ h ∧ h ≤ 255) ∧ h % low n = 0) := hide (by rw [← hq1, ← hq2]; exact ⟨hRV.1, hRV.2.1, hRV.2.2.1⟩)
    clear hh hh' hV hkq hq1 hq2 hRV
    clear a2 a3 a4 a5
    have a0 := L7.out.t3.cell 0
    have a1 := L7.out.t3.cell 1
    have a2 := L7.out.t6.cell 0
    have a3 := L7.out.t6.cell 1
    go_upto_region 9 with fail
    rw [← ha]
    clear ha
    obtain ⟨ha1, ha2⟩ := ha0
    have e0 := fun y => wext_cell w7 y a0
    have e1 := fun y => wext_cell w7 y a1
    have e2 := fun y => wext_cell w7 y a2
    have e3 := fun y => wext_cell w7 y a3
    have hmt := fun W => matches_any ⟨h, n, 0⟩ a W HR.out.1 HR.out.2.1 HR.out.2.2 ⟨ha1, ha2⟩
    have hq1 : ∀ y, Calls Try.prog 30 #[.agg #[.slice A3 n3 k3, .slice A4 n4 k4], .int .i64 a] (wext w7 y) fun e w' => e = .returned (.int .i64 hp) ∧ Below (wext w7 y).heap.size (wext w7 y) w' := fun y => hop_is _ u a hp _ (L7.out.hg.up (wext_below w7 y)) hun HH.out
    have HQ1 := hide hq1
    clear hq1
    have hhh : (hp == hp) = true := by simp
    have hbw := L7.out.bw
    by_cases hmr : Mt ⟨h, n, 0⟩ a
    · rw [tb_yes hmr] at hmt
      have HM2 := hide hmt
      clear hmt hmr
      refine region_q (by kernel_rfl) (by kernel_rfl) ?_
      repeat (go_big_quiet_step ((first | (go_at_call 31; exact q_call (HM2.out _)))))
      refine wpQuiet_nil ?_
      intro wx hbx
      go_wp2
      go_ret
      exact ⟨rfl, hb2.trans ((hbw.trans (hbx.mono hbw.size)).mono hb2.size)⟩
    · rw [tb_no hmr] at hmt
      have hq2 : ∀ y, Calls Try.prog 30 #[.agg #[.slice A1 t.routes.length c1, .slice A2 t.hops.length c2], .int .i64 a] (wext w7 y) fun e w' => e = .returned (.int .i64 hp) ∧ Below (wext w7 y).heap.size (wext w7 y) w' := fun y => hop_is _ t a hp _ (L7.out.hx.up (wext_below w7 y)) hn (HH'.out hmr)
      have HQ3 := hide hq2
      have HM2 := hide hmt
      clear hmt hmr hq2
      refine region_q (by kernel_rfl) (by kernel_rfl) ?_
      repeat (go_big_quiet_step ((first | (go_at_call 31; exact q_call (HM2.out _)) | (go_at_call 30; with_reducible exact q_call (HQ1.out _)) | (go_at_call 30; with_reducible exact q_call (HQ3.out _)))))
      refine wpQuiet_nil ?_
      intro wx hbx
      go_wp2
      go_ret
      exact ⟨rfl, hb2.trans ((hbw.trans (hbx.mono hbw.size)).mono hb2.size)⟩
set_option maxRecDepth 100000 in
set_option maxHeartbeats 3200000 in
theorem lawTableRemove (v : Value) (bs : List Int) (w : World) (hv : SlR bc 1 w w.heap.size v bs) (hm : bs.length ≤ 9223372036854775807 ∧ ∀ n ∈ bs, 0 ≤ n ∧ n ≤ 255) :
    Calls Try.prog 20 #[v] w fun e w' => e = .returned (.bool true) ∧ Below w.heap.size w w' := by
  by_cases hl : 1048576 < bs.length
  · obtain ⟨A, cap, rfl, hc, hr⟩ := hv
    clear hr hm
    go_enter Try.func20, Try.ntmps20
    go_wp2
    go_ret
    exact ⟨rfl, Below.refl _ _⟩
  have hvv := hv
  obtain ⟨A, cap, rfl, hc, hr⟩ := hvv
  have HM := hide hm
  clear hm hr hc
  go_enter Try.func20, Try.ntmps20
  go_wp2_with fail
  refine (drawRemove_any _ bs _ hv HM.out).mono ?_
  rintro e w1 ⟨x, h, n, t, rfl, hT0, ⟨hl1, hl2⟩, hb1⟩
  have hT1 := hT0 w1 (Kept.refl _ _)
  clear hT0
  have hn : t.routes.length ≤ 1048576 ∧ t.hops.length ≤ 1048576 := by omega
  have hT1' := hT1
  obtain ⟨x1, x2, rfl, hx1, hx2⟩ := hT1'
  obtain ⟨A1, c1, rfl, hc1⟩ := hx1.form
  obtain ⟨A2, c2, rfl, hc2⟩ := hx2.form
  obtain ⟨X, hX⟩ : ∃ X, X = w1.heap.size := ⟨_, rfl⟩
  obtain ⟨w2, hw2⟩ : ∃ w2, w2 = w1.alloc (Obj.cells #[.slice A1 t.routes.length c1, .slice A2 t.hops.length c2] 30) := ⟨_, rfl⟩
  have h12 : Below w1.heap.size w1 w2 := by rw [hw2]; exact below1 _ _
  have HX2 := hide (show Blk w2 X 30 #[.slice A1 t.routes.length c1, .slice A2 t.hops.length c2] from by rw [hw2, hX]; exact Blk.new _ _ _)
  have hb2 := hb1.trans (h12.mono hb1.size)
  have hT2 := hT1.up h12
  clear hx1 hx2 hT1 hb1 h12 HM
  go_wp2_with fail
  rw [← hw2, ← hX]
  clear hw2 hX
  obtain ⟨u, k, hTT⟩ : ∃ u k, remT t h n = (u, k) := ⟨_, _, rfl⟩
  have hul := remT_lens t h n
  rw [hTT] at hul
  have hun : u.routes.length ≤ 1048576 ∧ u.hops.length ≤ 1048576 := ⟨Nat.le_trans hul.1 hn.1, Nat.le_trans hul.2 hn.2⟩
  have HTT := hide hTT
  clear hTT hul
  refine (remove_u _ t h n u k _ HTT.out hT2 hn).mono ?_
  rintro e w3 ⟨g, rfl, hO3, hb3⟩
  have hG3 := hO3.tbr
  obtain ⟨A3, n3, k3, A4, n4, k4, rfl⟩ := hO3.lit
  obtain ⟨G, hG⟩ : ∃ G, G = w3.heap.size := ⟨_, rfl⟩
  obtain ⟨w4, hw4⟩ : ∃ w4, w4 = w3.alloc (Obj.cells #[.slice A3 n3 k3, .slice A4 n4 k4] 30) := ⟨_, rfl⟩
  have h34 : Below w3.heap.size w3 w4 := by rw [hw4]; exact below1 _ _
  have HG4 := hide (show Blk w4 G 30 #[.slice A3 n3 k3, .slice A4 n4 k4] from by rw [hw4, hG]; exact Blk.new _ _ _)
  have HX4 := hide ((HX2.out.up hb3).up h34)
  have a0 := HX4.out.cell 0
  have a1 := HX4.out.cell 1
  have hT4 := (hT2.up hb3).up h34
  have hG4 := hG3.up h34
  have hb24 := hb3.trans (h34.mono hb3.size)
  clear hO3 hG3 hT2 HX2 hb3 h34
  rw [hw4] at a0 a1
  go_wp2_with fail
  clear a0 a1
  rw [← hw4, ← hG]
  clear hw4 hG
  refine (specRemove_u _ t h n u k _ HTT.out hT4 hn).mono ?_
  rintro e w5 ⟨y, rfl, hO5, hb5⟩
  have hY5 := hO5.tbr
  obtain ⟨A5, n5, k5, A6, n6, k6, rfl⟩ := hO5.lit
  obtain ⟨Y, hY⟩ : ∃ Y, Y = w5.heap.size := ⟨_, rfl⟩
  obtain ⟨w6, hw6⟩ : ∃ w6, w6 = w5.alloc (Obj.cells #[.slice A5 n5 k5, .slice A6 n6 k6] 30) := ⟨_, rfl⟩
  have h56 : Below w5.heap.size w5 w6 := by rw [hw6]; exact below1 _ _
  have L6 : Lx w2 w6 X G Y #[.slice A1 t.routes.length c1, .slice A2 t.hops.length c2] #[.slice A3 n3 k3, .slice A4 n4 k4] #[.slice A5 n5 k5, .slice A6 n6 k6] (.agg #[.slice A1 t.routes.length c1, .slice A2 t.hops.length c2]) (.agg #[.slice A3 n3 k3, .slice A4 n4 k4]) (.agg #[.slice A5 n5 k5, .slice A6 n6 k6]) t u :=
    ⟨(hb24.trans (hb5.mono hb24.size)).trans (h56.mono (Nat.le_trans hb24.size hb5.size)), (HX4.out.up hb5).up h56, (HG4.out.up hb5).up h56, by rw [hw6, hY]; exact Blk.new _ _ _, (hT4.up hb5).up h56, (hG4.up hb5).up h56, hY5.up h56⟩
  have L6 := hide L6
  clear hO5 hY5 hT4 hG4 HX4 HG4 hb24 hb5 h56
  have hne : (k != k) = false := by simp
  have heq : (k == k) = true := by simp
  have a2 := L6.out.t6.cell 0
  have a3 := L6.out.t6.cell 1
  have a4 := L6.out.t8.cell 0
  have a5 := L6.out.t8.cell 1
  rw [hw6] at a2 a3 a4 a5
  rw [hY] at a4 a5
  go_wp2_with fail
  clear a2 a3 a4 a5
  rw [← hw6, ← hY]
  clear hw6 hY
  refine (sameT_any _ _ u u _ L6.out.hg L6.out.hy hun hun).mono ?_
  rintro e w7 ⟨rfl, hb7⟩
  rw [eqB_self]
  have L7 := hide (L6.out.below hb7)
  clear L6 hb7
  have a2 := L7.out.t6.cell 0
  have a3 := L7.out.t6.cell 1
  have a4 := L7.out.t8.cell 0
  have a5 := L7.out.t8.cell 1
  have hGs := L7.out.hg
  obtain ⟨A3', A3c, A3e, _, A3r⟩ := hGs.slr1 rfl
  injection A3e with A3e1 A3e2 A3e3
  subst A3e1; subst A3e2; subst A3e3
  clear hGs A3r
  cases k with
  | false =>
    go_wp2_with fail
    refine (sameT_any _ _ u u _ L7.out.hg L7.out.hy hun hun).mono ?_
    rintro e w8 ⟨rfl, hb8⟩
    rw [eqB_self]
    have hbf := L7.out.bw.trans (hb8.mono L7.out.bw.size)
    go_wp2
    go_ret
    exact ⟨rfl, hb2.trans (hbf.mono hb2.size)⟩
  | true =>
    obtain ⟨hV, kq, q0, hkq, hq1, hq2⟩ := rem_found (t := t) (p := h) (b := n) (by rw [HTT.out])
    have HV := hide hV
    have HF : Hid (∃ (k : Nat) (q : Rt), t.routes[k]? = some q ∧ q.pre = h ∧ q.bits = n) := hide ⟨kq, q0, hkq, hq1, hq2⟩
    clear hV hkq hq1 hq2 a2 a3 a4 a5
    obtain ⟨wb, hwb⟩ : ∃ wb, wb = w7 := ⟨_, rfl⟩
    subst hwb
    go_wp2
    go_loopg [10] (t.routes.length) (fun g iv wr => ∃ k : Nat, k + g = t.routes.length ∧ iv = .int .i64 k ∧ Below wb.heap.size wb wr ∧ Hid (∀ (j : Nat) (x : Rt), j < k → t.routes[j]? = some x → ¬ (x.pre = h ∧ x.bits = n)))
    case atStart => exact ⟨0, by omega, rfl, Below.refl _ _, hide fun j x hj => by omega⟩
    case round =>
      obtain ⟨i, hi, rfl, hbe, HN⟩ := hrel
      have L8 := hide (L7.out.below hbe)
      have a0 := L8.out.t3.cell 0
      have a1 := L8.out.t3.cell 1
      by_cases hlt : i < t.routes.length
      · obtain ⟨b, off, rfl, hb, hcell⟩ : ∃ b off, A1 = some ⟨b, off, none⟩ ∧ b < wr.heap.size ∧ RowsAt rc 3 wr b off t.routes := by
          obtain ⟨A', c', hA, _, hr⟩ := L8.out.hx.slr1 rfl
          injection hA with hA _ _
          subst hA
          exact hr (by omega)
        obtain ⟨q, hq⟩ := get_some hlt
        obtain ⟨g1, g2, g3⟩ := routeAt hcell hq
        have HQ := hide hq
        clear hq
        by_cases hp : q.pre = h
        · have p1 : (q.pre == h) = true := by simp [hp]
          by_cases hbt : q.bits = n
          · have p2 : (q.bits == n) = true := by simp [hbt]
            obtain ⟨ra, rl⟩ := rem_add HV.out HQ.out hp hbt
            rw [HTT.out] at ra rl
            have HA := hide ra
            have hll : u.routes.length + 1 = t.routes.length := rl
            have HLL := hide hll
            clear hp hbt ra rl hll
            go_upto_region 12 with fail
            clear a0 a1
            have HC : Hid (∀ X', Below wr.heap.size wr X' → X'.cell? ⟨G, 0, none⟩ = some (.slice A3 u.routes.length k3) ∧ X'.cell? ⟨G, 1, none⟩ = some (.slice A4 n4 k4) ∧ X'.cell? ⟨X, 0, none⟩ = some (.slice (some ⟨b, off, none⟩) t.routes.length c1) ∧ X'.cell? ⟨b, off + i * 3, none⟩ = some (.int .i64 q.pre) ∧ X'.cell? ⟨b, off + i * 3 + 1, none⟩ = some (.int .i64 q.bits) ∧ X'.cell? ⟨b, off + i * 3 + 2, none⟩ = some (.int .i64 q.hop)) :=
              hide fun X' hX => ⟨((L8.out.below hX).t6).cell 0, ((L8.out.below hX).t6).cell 1, ((L8.out.below hX).t3).cell 0, (hX.cell hb).trans g1, (hX.cell hb).trans g2, (hX.cell hb).trans g3⟩
            have HV1 : Hid (∀ X', Below wr.heap.size wr X' → TbR X' X'.heap.size (.agg #[.slice A3 u.routes.length k3, .slice A4 n4 k4]) u) := hide fun X' hX => (L8.out.below hX).hg
            go_cut [11, 12] (fun s6 s7 wx => ∃ Z, s6 = .pointer (some ⟨Z, 0, none⟩) ∧ s7 = .bool true ∧ Hid (Boxed wr wx t Z))
            case first =>
              obtain ⟨b0, b1, b2, b3, b4, b5⟩ := HC.out wr (Below.refl _ _)
              clear g1 g2 g3
              have hl1' : G < wr.heap.size := World.block_lt_of_cell? wr _ b0
              have hl2' : X < wr.heap.size := World.block_lt_of_cell? wr _ b2
              have n1 : G ≠ wr.heap.size := by omega
              have n2 : X ≠ wr.heap.size := by omega
              have n3' : b ≠ wr.heap.size := by omega
              have m1 : wr.heap.size ≠ G := by omega
              have m2 : wr.heap.size ≠ X := by omega
              have m3 : wr.heap.size ≠ b := by omega
              go_region_held3 (fun X' => X'.cell? ⟨G, 0, none⟩ = some (.slice A3 u.routes.length k3) ∧ X'.cell? ⟨G, 1, none⟩ = some (.slice A4 n4 k4) ∧ X'.cell? ⟨X, 0, none⟩ = some (.slice (some ⟨b, off, none⟩) t.routes.length c1) ∧ X'.cell? ⟨b, off + i * 3, none⟩ = some (.int .i64 q.pre) ∧ X'.cell? ⟨b, off + i * 3 + 1, none⟩ = some (.int .i64 q.bits) ∧ X'.cell? ⟨b, off + i * 3 + 2, none⟩ = some (.int .i64 q.hop))
                (first | go_keep | exact HC.out _ hB5 | exact HC.out _ (hB5.alloc hB5.size _) | exact HC.out _ (below1 wr _) | exact HC.out _ (hB5.setCell (Nat.le_refl _) _) | exact HC.out _ ((hB5.setCell (Nat.le_refl _) _).setCell (Nat.le_refl _) _) | fail)
                (first
                  | (go_at_call 44; refine (add_u _ u q t true _ HA.out (HV1.out _ ?_) hun).mono ?_
                     · first | exact (Below.refl _ _).drew | exact (below1 wr _).drew
                     rintro e w5 ⟨y5, rfl, hO5, hb5⟩
                     have hB5 : Below wr.heap.size wr w5 := by first | exact ((Below.refl _ _).drew).trans hb5 | exact ((below1 wr _).drew).trans (hb5.mono (by simp))
                     obtain ⟨B3, m3', l3, B4, m4, l4, rfl⟩ := hO5.lit
                     try (have hZ5 := (show Blk (wr.alloc (.cells #[.slice none 0 0, .slice none 0 0] 30)).drew wr.heap.size 30 #[.slice none 0 0, .slice none 0 0] from Blk.new wr _ _).up hb5)
                     obtain ⟨b0, b1, b2, b3, b4, b5⟩ := HC.out w5 hB5
                     try (have z0 := hZ5.cell 0; have z1 := hZ5.cell 1; have y0 := hZ5.free 0; have y1 := hZ5.free 1))
                  | fail)
              all_goals
                go_wp2_with fail
                go_meet
                first
                  | exact ⟨_, rfl, rfl, hide (boxed_new hB5 hO5 (Nat.le_refl _))⟩
                  | exact ⟨_, rfl, rfl, hide (boxed_set hB5 hO5 (by first | exact Nat.le_refl _ | (simp; done) | (simp; omega)) hZ5 rfl (Nat.le_refl _))⟩
            case rest =>
              obtain ⟨Z, rfl, rfl, HZ⟩ := hcut
              obtain ⟨B1, m1, l1, B2, m2, l2, hbZ, hZl, hZB, hZO⟩ := HZ.out
              have L9 := hide (L8.out.below hbZ)
              clear HC HV1 HZ hbZ L8
              have b0 := hZB.cell 0
              have b1 := hZB.cell 1
              have a0 := L9.out.t3.cell 0
              have a1 := L9.out.t3.cell 1
              go_wp2_with fail
              refine (sameT_any _ _ t t _ hZO.tbr L9.out.hx hn hn).mono ?_
              rintro e w9 ⟨rfl, hb9⟩
              rw [eqB_self]
              have L10 := hide (L9.out.below hb9)
              clear L9 hb9 hZO hZB b0 b1 a0 a1
              have a0 := L10.out.t3.cell 0
              have a1 := L10.out.t3.cell 1
              have a2 := L10.out.t6.cell 0
              have a3 := L10.out.t6.cell 1
              have hbw := L10.out.bw
              have e10 : ((u.routes.length : Int) == (t.routes.length : Int) - 1) = true := by rw [beq_iff_eq]; have := HLL.out; omega
              go_wp2
              go_ret
              exact ⟨rfl, hb2.trans (hbw.mono hb2.size)⟩
          · have p2 : (q.bits == n) = false := by simp [hbt]
            have HN2 : Hid (∀ (j : Nat) (x : Rt), j < i + 1 → t.routes[j]? = some x → ¬ (x.pre = h ∧ x.bits = n)) := hide fun j x hj hx hk => by
              rcases Nat.lt_succ_iff_lt_or_eq.1 hj with h1 | h1
              · exact HN.out j x h1 hx hk
              · subst h1; rw [HQ.out] at hx; cases hx; exact hbt hk.2
            clear hp hbt HN
            go_wp2
            go_roundg (gk - 1)
            case measure => omega
            case rel => exact ⟨i + 1, by omega, by go_num, hbe, HN2⟩
        · have p1 : (q.pre == h) = false := by simp [hp]
          have HN2 : Hid (∀ (j : Nat) (x : Rt), j < i + 1 → t.routes[j]? = some x → ¬ (x.pre = h ∧ x.bits = n)) := hide fun j x hj hx hk => by
            rcases Nat.lt_succ_iff_lt_or_eq.1 hj with h1 | h1
            · exact HN.out j x h1 hx hk
            · subst h1; rw [HQ.out] at hx; cases hx; exact hp hk.1
          clear hp HN
          go_wp2
          go_roundg (gk - 1)
          case measure => omega
          case rel => exact ⟨i + 1, by omega, by go_num, hbe, HN2⟩
      · exfalso
        obtain ⟨j, x, hx, h1, h2⟩ := HF.out
        have := get_lt hx
        exact HN.out j x (by omega) hx ⟨h1, h2⟩
end Go.Proofs.Ytlkchocjldllgaa
