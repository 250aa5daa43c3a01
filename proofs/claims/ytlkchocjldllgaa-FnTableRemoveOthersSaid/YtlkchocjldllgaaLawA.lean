/- The laws FnTableAddTwice, FnTableAddFull, walked: each returns true for every code. Conditions: none. -/
import Derived.Test.YtlkchocjldllgaaDrawV
import Derived.Test.YtlkchocjldllgaaLawT
import Derived.Test.YtlkchocjldllgaaExactA
import Derived.Test.YtlkchocjldllgaaTabQ
namespace Go.Proofs.Ytlkchocjldllgaa
open Go.RowKit

set_option maxRecDepth 100000 in
set_option maxHeartbeats 1600000 in
theorem lawTableAddTwice (v : Value) (bs : List Int) (w : World) (hv : SlR bc 1 w w.heap.size v bs) (hm : bs.length ≤ 9223372036854775807 ∧ ∀ n ∈ bs, 0 ≤ n ∧ n ≤ 255) :
    Calls Try.prog 17 #[v] w fun e w' => e = .returned (.bool true) ∧ Below w.heap.size w w' := by
  by_cases hl : 1048576 < bs.length
  · obtain ⟨A, cap, rfl, hc, hr⟩ := hv
    clear hr hm
    go_enter Try.func17, Try.ntmps17
    go_wp2
    go_ret
    exact ⟨rfl, Below.refl _ _⟩
  have hvv := hv
  obtain ⟨A, cap, rfl, hc, hr⟩ := hvv
  have HM := hide hm
  clear hm hr hc
  go_enter Try.func17, Try.ntmps17
  go_wp2_with fail
  refine (drawAdd_any _ bs _ hv HM.out).mono ?_
  rintro e w1 ⟨x, rv, t, rfl, ⟨r, rfl⟩, hT0, ⟨hl1, hl2⟩, hb1⟩
  have hT1 := hT0 w1 (Kept.refl _ _)
  clear hT0
  have hn : t.routes.length ≤ 1048576 ∧ t.hops.length ≤ 1048576 := by omega
  have hT1' := hT1
  obtain ⟨x1, x2, rfl, hx1, hx2⟩ := hT1'
  obtain ⟨A1, c1, rfl, hc1⟩ := hx1.form
  obtain ⟨A2, c2, rfl, hc2⟩ := hx2.form
  obtain ⟨X, hX⟩ : ∃ X, X = w1.heap.size := ⟨_, rfl⟩
  obtain ⟨w2, hw2⟩ : ∃ w2, w2 = (w1.alloc (Obj.cells #[.slice A1 t.routes.length c1, .slice A2 t.hops.length c2] 30)).alloc (Obj.cells #[.int .i64 r.pre, .int .i64 r.bits, .int .i64 r.hop] 40) := ⟨_, rfl⟩
  have h12 : Below w1.heap.size w1 w2 := by rw [hw2]; exact below2 _ _ _
  have HX2 := hide (show Blk w2 X 30 #[.slice A1 t.routes.length c1, .slice A2 t.hops.length c2] from by rw [hw2, hX]; exact (Blk.new _ _ _).alloc _)
  have HQ2 := hide (show Blk w2 (X + 1) 40 #[.int .i64 r.pre, .int .i64 r.bits, .int .i64 r.hop] from by
    rw [hw2, hX]
    have h := Blk.new (w1.alloc (Obj.cells #[.slice A1 t.routes.length c1, .slice A2 t.hops.length c2] 30)) 40 #[.int .i64 r.pre, .int .i64 r.bits, .int .i64 r.hop]
    simpa using h)
  have hb2 := hb1.trans (h12.mono hb1.size)
  have hT2 := hT1.up h12
  clear hx1 hx2 hT1 hb1 h12 HM
  go_wp2_with fail
  rw [← hw2, ← hX]
  clear hw2 hX
  obtain ⟨u, k, hTT⟩ : ∃ u k, addT t r = (u, k) := ⟨_, _, rfl⟩
  have hun := addT_lens t r hn
  rw [hTT] at hun
  have HTT := hide hTT
  clear hTT
  refine (add_u _ t r u k _ HTT.out hT2 hn).mono ?_
  rintro e w3 ⟨g, rfl, hO3, hb3⟩
  have hG3 := hO3.tbr
  obtain ⟨A3, n3, k3, A4, n4, k4, rfl⟩ := hO3.lit
  obtain ⟨G, hG⟩ : ∃ G, G = w3.heap.size := ⟨_, rfl⟩
  obtain ⟨w4, hw4⟩ : ∃ w4, w4 = w3.alloc (Obj.cells #[.slice A3 n3 k3, .slice A4 n4 k4] 30) := ⟨_, rfl⟩
  have h34 : Below w3.heap.size w3 w4 := by rw [hw4]; exact below1 _ _
  have HG4 := hide (show Blk w4 G 30 #[.slice A3 n3 k3, .slice A4 n4 k4] from by rw [hw4, hG]; exact Blk.new _ _ _)
  have hb24 := hb3.trans (h34.mono hb3.size)
  have a0 := (HX2.out.up hb24).cell 0
  have a1 := (HX2.out.up hb24).cell 1
  have a6 := (HQ2.out.up hb24).cell 0
  have a7 := (HQ2.out.up hb24).cell 1
  have a8 := (HQ2.out.up hb24).cell 2
  have hT4 := hT2.up hb24
  have hG4 := hG3.up h34
  clear hO3 hG3 hT2 hb3 h34
  rw [hw4] at a0 a1 a6 a7 a8
  go_wp2_with fail
  clear a0 a1 a6 a7 a8
  rw [← hw4, ← hG]
  clear hw4 hG
  refine (specAdd_u _ t r u k _ HTT.out hT4 hn).mono ?_
  rintro e w5 ⟨y, rfl, hO5, hb5⟩
  have hY5 := hO5.tbr
  obtain ⟨A5, n5, k5, A6, n6, k6, rfl⟩ := hO5.lit
  obtain ⟨Y, hY⟩ : ∃ Y, Y = w5.heap.size := ⟨_, rfl⟩
  obtain ⟨w6, hw6⟩ : ∃ w6, w6 = w5.alloc (Obj.cells #[.slice A5 n5 k5, .slice A6 n6 k6] 30) := ⟨_, rfl⟩
  have h56 : Below w5.heap.size w5 w6 := by rw [hw6]; exact below1 _ _
  have L6 : Lx w2 w6 X G Y #[.slice A1 t.routes.length c1, .slice A2 t.hops.length c2] #[.slice A3 n3 k3, .slice A4 n4 k4] #[.slice A5 n5 k5, .slice A6 n6 k6] (.agg #[.slice A1 t.routes.length c1, .slice A2 t.hops.length c2]) (.agg #[.slice A3 n3 k3, .slice A4 n4 k4]) (.agg #[.slice A5 n5 k5, .slice A6 n6 k6]) t u :=
    ⟨(hb24.trans (hb5.mono hb24.size)).trans (h56.mono (Nat.le_trans hb24.size hb5.size)), ((HX2.out.up hb24).up hb5).up h56, (HG4.out.up hb5).up h56, by rw [hw6, hY]; exact Blk.new _ _ _, (hT4.up hb5).up h56, (hG4.up hb5).up h56, hY5.up h56⟩
  have L6 := hide L6
  clear hO5 hY5 hT4 hG4 HX2 HG4 hb5 h56 hb24
  have hne : (k != k) = false := by simp
  have heq : (k == k) = true := by simp
  have a2 := L6.out.t6.cell 0
  have a3 := L6.out.t6.cell 1
  have a4 := L6.out.t8.cell 0
  have a5 := L6.out.t8.cell 1
  rw [hw6] at a2 a3 a4 a5
  rw [hY] at a4 a5
  go_wp2_with fail
  clear a2 a3 a4 a5
  rw [← hw6, ← hY]
  clear hw6 hY
  refine (sameT_any _ _ u u _ L6.out.hg L6.out.hy hun hun).mono ?_
  rintro e w7 ⟨rfl, hb7⟩
  rw [eqB_self]
  have L7 := hide (L6.out.below hb7)
  clear L6 hb7
  have a2 := L7.out.t6.cell 0
  have a3 := L7.out.t6.cell 1
  have a4 := L7.out.t8.cell 0
  have a5 := L7.out.t8.cell 1
  cases k with
  | false =>
    go_wp2_with fail
    refine (sameT_any _ _ u u _ L7.out.hg L7.out.hy hun hun).mono ?_
    rintro e w8 ⟨rfl, hb8⟩
    rw [eqB_self]
    have hbf := L7.out.bw.trans (hb8.mono L7.out.bw.size)
    go_wp2
    go_ret
    exact ⟨rfl, hb2.trans (hbf.mono hb2.size)⟩
  | true =>
    have hA2 : addT u r = (u, true) := by
      have h := add_twice (t := t) (r := r) (by rw [HTT.out])
      rw [HTT.out] at h
      exact h
    have HA2 := hide hA2
    clear hA2
    have a6 := (HQ2.out.up L7.out.bw).cell 0
    have a7 := (HQ2.out.up L7.out.bw).cell 1
    have a8 := (HQ2.out.up L7.out.bw).cell 2
    go_wp2_with fail
    refine (add_u _ u r u true _ HA2.out L7.out.hg hun).mono ?_
    rintro e w8 ⟨z, rfl, hO8, hb8⟩
    have L8 := hide (L7.out.below hb8)
    obtain ⟨A7, n7, k7, A8, n8, k8, rfl⟩ := hO8.lit
    have h89 := below1 w8 (.cells #[.slice A7 n7 k7, .slice A8 n8 k8] 30)
    clear L7 hb8 a2 a3 a4 a5 a6 a7 a8
    have a2 := (L8.out.below h89).t6.cell 0
    have a3 := (L8.out.below h89).t6.cell 1
    go_wp2_with fail
    refine (sameT_any _ _ u u _ (hO8.tbr.up h89) (L8.out.below h89).hg hun hun).mono ?_
    rintro e w10 ⟨rfl, hb10⟩
    rw [eqB_self]
    have hbf := ((L8.out.below h89).below hb10).bw
    go_wp2
    go_ret
    exact ⟨rfl, hb2.trans (hbf.mono hb2.size)⟩
set_option maxRecDepth 100000 in
set_option maxHeartbeats 1600000 in
theorem lawTableAddFull (v : Value) (bs : List Int) (w : World) (hv : SlR bc 1 w w.heap.size v bs) (hm : bs.length ≤ 9223372036854775807 ∧ ∀ n ∈ bs, 0 ≤ n ∧ n ≤ 255) :
    Calls Try.prog 15 #[v] w fun e w' => e = .returned (.bool true) ∧ Below w.heap.size w w' := by
  by_cases hl : 1048576 < bs.length
  · obtain ⟨A, cap, rfl, hc, hr⟩ := hv
    clear hr hm
    go_enter Try.func15, Try.ntmps15
    go_wp2
    go_ret
    exact ⟨rfl, Below.refl _ _⟩
  have hvv := hv
  obtain ⟨A, cap, rfl, hc, hr⟩ := hvv
  have HM := hide hm
  clear hm hr hc
  go_enter Try.func15, Try.ntmps15
  go_wp2_with fail
  refine (drawAdd_any _ bs _ hv HM.out).mono ?_
  rintro e w1 ⟨x, rv, t, rfl, ⟨r, rfl⟩, hT0, ⟨hl1, hl2⟩, hb1⟩
  have hT1 := hT0 w1 (Kept.refl _ _)
  clear hT0
  have hn : t.routes.length ≤ 1048576 ∧ t.hops.length ≤ 1048576 := by omega
  have hT1' := hT1
  obtain ⟨x1, x2, rfl, hx1, hx2⟩ := hT1'
  obtain ⟨A1, c1, rfl, hc1⟩ := hx1.form
  obtain ⟨A2, c2, rfl, hc2⟩ := hx2.form
  obtain ⟨X, hX⟩ : ∃ X, X = w1.heap.size := ⟨_, rfl⟩
  obtain ⟨w2, hw2⟩ : ∃ w2, w2 = (w1.alloc (Obj.cells #[.slice A1 t.routes.length c1, .slice A2 t.hops.length c2] 30)).alloc (Obj.cells #[.int .i64 r.pre, .int .i64 r.bits, .int .i64 r.hop] 40) := ⟨_, rfl⟩
  have h12 : Below w1.heap.size w1 w2 := by rw [hw2]; exact below2 _ _ _
  have HX2 := hide (show Blk w2 X 30 #[.slice A1 t.routes.length c1, .slice A2 t.hops.length c2] from by rw [hw2, hX]; exact (Blk.new _ _ _).alloc _)
  have HQ2 := hide (show Blk w2 (X + 1) 40 #[.int .i64 r.pre, .int .i64 r.bits, .int .i64 r.hop] from by
    rw [hw2, hX]
    have h := Blk.new (w1.alloc (Obj.cells #[.slice A1 t.routes.length c1, .slice A2 t.hops.length c2] 30)) 40 #[.int .i64 r.pre, .int .i64 r.bits, .int .i64 r.hop]
    simpa using h)
  have hb2 := hb1.trans (h12.mono hb1.size)
  have hT2 := hT1.up h12
  clear hx1 hx2 hT1 hb1 h12 HM
  go_wp2_with fail
  rw [← hw2, ← hX]
  clear hw2 hX
  obtain ⟨u, k, hTT⟩ : ∃ u k, addT t r = (u, k) := ⟨_, _, rfl⟩
  have hun := addT_lens t r hn
  rw [hTT] at hun
  have HTT := hide hTT
  clear hTT
  refine (add_u _ t r u k _ HTT.out hT2 hn).mono ?_
  rintro e w3 ⟨g, rfl, hO3, hb3⟩
  have hG3 := hO3.tbr
  obtain ⟨A3, n3, k3, A4, n4, k4, rfl⟩ := hO3.lit
  obtain ⟨G, hG⟩ : ∃ G, G = w3.heap.size := ⟨_, rfl⟩
  obtain ⟨w4, hw4⟩ : ∃ w4, w4 = w3.alloc (Obj.cells #[.slice A3 n3 k3, .slice A4 n4 k4] 30) := ⟨_, rfl⟩
  have h34 : Below w3.heap.size w3 w4 := by rw [hw4]; exact below1 _ _
  have HG4 := hide (show Blk w4 G 30 #[.slice A3 n3 k3, .slice A4 n4 k4] from by rw [hw4, hG]; exact Blk.new _ _ _)
  have hb24 := hb3.trans (h34.mono hb3.size)
  have a0 := (HX2.out.up hb24).cell 0
  have a1 := (HX2.out.up hb24).cell 1
  have a6 := (HQ2.out.up hb24).cell 0
  have a7 := (HQ2.out.up hb24).cell 1
  have a8 := (HQ2.out.up hb24).cell 2
  have hT4 := hT2.up hb24
  have hG4 := hG3.up h34
  clear hO3 hG3 hT2 hb3 h34
  rw [hw4] at a0 a1 a6 a7 a8
  go_wp2_with fail
  clear a0 a1 a6 a7 a8
  rw [← hw4, ← hG]
  clear hw4 hG
  refine (specAdd_u _ t r u k _ HTT.out hT4 hn).mono ?_
  rintro e w5 ⟨y, rfl, hO5, hb5⟩
  have hY5 := hO5.tbr
  obtain ⟨A5, n5, k5, A6, n6, k6, rfl⟩ := hO5.lit
  obtain ⟨Y, hY⟩ : ∃ Y, Y = w5.heap.size := ⟨_, rfl⟩
  obtain ⟨w6, hw6⟩ : ∃ w6, w6 = w5.alloc (Obj.cells #[.slice A5 n5 k5, .slice A6 n6 k6] 30) := ⟨_, rfl⟩
  have h56 : Below w5.heap.size w5 w6 := by rw [hw6]; exact below1 _ _
  have L6 : Lx w2 w6 X G Y #[.slice A1 t.routes.length c1, .slice A2 t.hops.length c2] #[.slice A3 n3 k3, .slice A4 n4 k4] #[.slice A5 n5 k5, .slice A6 n6 k6] (.agg #[.slice A1 t.routes.length c1, .slice A2 t.hops.length c2]) (.agg #[.slice A3 n3 k3, .slice A4 n4 k4]) (.agg #[.slice A5 n5 k5, .slice A6 n6 k6]) t u :=
    ⟨(hb24.trans (hb5.mono hb24.size)).trans (h56.mono (Nat.le_trans hb24.size hb5.size)), ((HX2.out.up hb24).up hb5).up h56, (HG4.out.up hb5).up h56, by rw [hw6, hY]; exact Blk.new _ _ _, (hT4.up hb5).up h56, (hG4.up hb5).up h56, hY5.up h56⟩
  have L6 := hide L6
  clear hO5 hY5 hT4 hG4 HX2 HG4 hb5 h56 hb24
  have hne : (k != k) = false := by simp
  have heq : (k == k) = true := by simp
  have a2 := L6.out.t6.cell 0
  have a3 := L6.out.t6.cell 1
  have a4 := L6.out.t8.cell 0
  have a5 := L6.out.t8.cell 1
  rw [hw6] at a2 a3 a4 a5
  rw [hY] at a4 a5
  go_wp2_with fail
  clear a2 a3 a4 a5
  rw [← hw6, ← hY]
  clear hw6 hY
  refine (sameT_any _ _ u u _ L6.out.hg L6.out.hy hun hun).mono ?_
  rintro e w7 ⟨rfl, hb7⟩
  rw [eqB_self]
  have L7 := hide (L6.out.below hb7)
  clear L6 hb7
  have a2 := L7.out.t6.cell 0
  have a3 := L7.out.t6.cell 1
  have a4 := L7.out.t8.cell 0
  have a5 := L7.out.t8.cell 1
  have hYs := L7.out.hy
  obtain ⟨A5', A5c, A5e, _, A5r⟩ := hYs.slr1 rfl
  injection A5e with A5e1 A5e2 A5e3
  subst A5e1; subst A5e2; subst A5e3
  clear hYs A5r
  cases k with
  | true =>
    go_wp2_with fail
    refine (sameT_any _ _ u u _ L7.out.hg L7.out.hy hun hun).mono ?_
    rintro e w8 ⟨rfl, hb8⟩
    rw [eqB_self]
    have hbf := L7.out.bw.trans (hb8.mono L7.out.bw.size)
    go_wp2
    go_ret
    exact ⟨rfl, hb2.trans (hbf.mono hb2.size)⟩
  | false =>
    by_cases hz : u.routes.length = 0
    · have e0 : ((u.routes.length : Int) == 0) = true := by simp [hz]
      clear hz
      go_wp2_with fail
      refine (sameT_any _ _ u u _ L7.out.hg L7.out.hy hun hun).mono ?_
      rintro e w8 ⟨rfl, hb8⟩
      rw [eqB_self]
      have hbf := L7.out.bw.trans (hb8.mono L7.out.bw.size)
      go_wp2
      go_ret
      exact ⟨rfl, hb2.trans (hbf.mono hb2.size)⟩
    · have e0 : ((u.routes.length : Int) == 0) = false := by rw [beq_eq_false_iff_ne]; omega
      obtain ⟨f1, f2, f3⟩ := add_full (t := t) (r := r) (by rw [HTT.out]) (by rw [HTT.out]; exact hz)
      rw [HTT.out] at f1
      injection f1 with f1 _
      subst f1
      have HF := hide f3
      have F2 := hide f2
      clear f2 f3 hz
      clear a2 a3 a4 a5
      obtain ⟨wb, hwb⟩ : ∃ wb, wb = w7 := ⟨_, rfl⟩
      subst hwb
      have a4 := L7.out.t8.cell 0
      have a5 := L7.out.t8.cell 1
      go_wp2
      clear a4 a5
      go_loopg [9] (u.routes.length) (fun g iv wr => ∃ k : Nat, k + g = u.routes.length ∧ iv = .int .i64 k ∧ Below wb.heap.size wb wr)
      case atStart => exact ⟨0, by omega, rfl, Below.refl _ _⟩
      case round =>
        obtain ⟨k, hk, rfl, hbe⟩ := hrel
        have L8 := hide (L7.out.below hbe)
        have a0 := L8.out.t3.cell 0
        have a1 := L8.out.t3.cell 1
        by_cases hlt : k < u.routes.length
        · obtain ⟨b, off, rfl, hb, hcell⟩ : ∃ b off, A1 = some ⟨b, off, none⟩ ∧ b < wr.heap.size ∧ RowsAt rc 3 wr b off u.routes := by
            obtain ⟨A', c', hA, _, hr⟩ := L8.out.hx.slr1 rfl
            injection hA with hA _ _
            subst hA
            exact hr (by omega)
          obtain ⟨q, hq⟩ := get_some hlt
          obtain ⟨g1, g2, g3⟩ := routeAt hcell hq
          have hnk := HF.out q (List.mem_of_getElem? hq)
          clear hq
          have a6 := (HQ2.out.up L8.out.bw).cell 0
          have a7 := (HQ2.out.up L8.out.bw).cell 1
          have a8 := (HQ2.out.up L8.out.bw).cell 2
          go_upto_region 11 with fail
          have e1 := fun y => wext_cell wr y a0
          have e2 := fun y => wext_cell wr y a6
          have e3 := fun y => wext_cell wr y a7
          have e4 := fun y => wext_cell wr y g1
          have e5 := fun y => wext_cell wr y g2
          by_cases hp : q.pre = r.pre
          · have hbn : ¬ q.bits = r.bits := fun h => hnk ⟨hp, h⟩
            have p1 : (q.pre == r.pre) = true := by simp [hp]
            have p2 : (q.bits == r.bits) = false := by simp [hbn]
            clear hnk hp hbn
            refine region_q (by kernel_rfl) (by kernel_rfl) ?_
            repeat (go_big_quiet_step ((first | (fail))))
            refine wpQuiet_nil ?_
            intro wx hbx
            clear e1 e2 e3 e4 e5 a0 a1 a6 a7 a8 g1 g2 g3
            go_wp2
            go_roundg (gk - 1)
            case measure => omega
            case rel => exact ⟨k + 1, by omega, by go_num, hbe.trans (hbx.mono hbe.size)⟩
          · have p1 : (q.pre == r.pre) = false := by simp [hp]
            clear hnk hp
            refine region_q (by kernel_rfl) (by kernel_rfl) ?_
            repeat (go_big_quiet_step ((first | (fail))))
            refine wpQuiet_nil ?_
            intro wx hbx
            clear e1 e2 e3 e4 e5 a0 a1 a6 a7 a8 g1 g2 g3
            go_wp2
            go_roundg (gk - 1)
            case measure => omega
            case rel => exact ⟨k + 1, by omega, by go_num, hbe.trans (hbx.mono hbe.size)⟩
        · have e10 : ((u.routes.length : Int) == 10) = true := by simp [F2.out]
          clear F2
          have a2 := L8.out.t6.cell 0
          have a3 := L8.out.t6.cell 1
          go_wp2_with fail
          refine (sameT_any _ _ u u _ L8.out.hg L8.out.hx hun hun).mono ?_
          rintro e w9 ⟨rfl, hb9⟩
          rw [eqB_self]
          have hbf := (L8.out.below hb9).bw
          go_wp2
          go_ret
          exact ⟨rfl, hb2.trans (hbf.mono hb2.size)⟩
end Go.Proofs.Ytlkchocjldllgaa
