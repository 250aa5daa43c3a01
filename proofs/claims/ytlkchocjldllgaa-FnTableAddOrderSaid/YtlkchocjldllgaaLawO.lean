/- The law FnTableAddOrder, walked: it returns true for every two codes. Conditions: none. -/
import Derived.Test.YtlkchocjldllgaaLawA
namespace Go.Proofs.Ytlkchocjldllgaa
open Go.RowKit

set_option maxRecDepth 100000 in
set_option maxHeartbeats 3200000 in
theorem lawTableAddOrder (v : Value) (bs : List Int) (v' : Value) (cs : List Int) (w : World) (hv : SlR bc 1 w w.heap.size v bs) (hm : bs.length ≤ 9223372036854775807 ∧ ∀ n ∈ bs, 0 ≤ n ∧ n ≤ 255)
    (hv' : SlR bc 1 w w.heap.size v' cs) (hm' : cs.length ≤ 9223372036854775807 ∧ ∀ n ∈ cs, 0 ≤ n ∧ n ≤ 255) :
    Calls Try.prog 16 #[v, v'] w fun e w' => e = .returned (.bool true) ∧ Below w.heap.size w w' := by
  have hvv := hv
  obtain ⟨A, cap, rfl, hc, hr⟩ := hvv
  have hvw := hv'
  obtain ⟨A', cap', rfl, hc', hr'⟩ := hvw
  have HM := hide hm
  have HM' := hide hm'
  have hm1 := hm.1
  have hm1' := hm'.1
  clear hm hm' hr hr' hc hc'
  by_cases hl : 1048576 < bs.length
  · go_enter Try.func16, Try.ntmps16
    go_wp2
    go_ret
    exact ⟨rfl, Below.refl _ _⟩
  by_cases hl' : 1048576 < cs.length
  · go_enter Try.func16, Try.ntmps16
    go_wp2
    go_ret
    exact ⟨rfl, Below.refl _ _⟩
  go_enter Try.func16, Try.ntmps16
  go_wp2_with fail
  refine (drawAdd_any _ bs _ hv HM.out).mono ?_
  rintro e w1 ⟨x, rv, t, rfl, ⟨r, rfl⟩, hT0, ⟨hl1, hl2⟩, hb1⟩
  have hT1 := hT0 w1 (Kept.refl _ _)
  clear hT0
  have hn : t.routes.length ≤ 1048576 ∧ t.hops.length ≤ 1048576 := by omega
  have hT1' := hT1
  obtain ⟨x1, x2, rfl, hx1, hx2⟩ := hT1'
  obtain ⟨A1, c1, rfl, hc1⟩ := hx1.form
  obtain ⟨A2, c2, rfl, hc2⟩ := hx2.form
  obtain ⟨X, hX⟩ : ∃ X, X = w1.heap.size := ⟨_, rfl⟩
  obtain ⟨w2, hw2⟩ : ∃ w2, w2 = (w1.alloc (Obj.cells #[.slice A1 t.routes.length c1, .slice A2 t.hops.length c2] 30)).alloc (Obj.cells #[.int .i64 r.pre, .int .i64 r.bits, .int .i64 r.hop] 40) := ⟨_, rfl⟩
  have h12 : Below w1.heap.size w1 w2 := by rw [hw2]; exact below2 _ _ _
  have HX2 := hide (show Blk w2 X 30 #[.slice A1 t.routes.length c1, .slice A2 t.hops.length c2] from by rw [hw2, hX]; exact (Blk.new _ _ _).alloc _)
  have HQ2 := hide (show Blk w2 (X + 1) 40 #[.int .i64 r.pre, .int .i64 r.bits, .int .i64 r.hop] from by
    rw [hw2, hX]
    have h := Blk.new (w1.alloc (Obj.cells #[.slice A1 t.routes.length c1, .slice A2 t.hops.length c2] 30)) 40 #[.int .i64 r.pre, .int .i64 r.bits, .int .i64 r.hop]
    simpa using h)
  have hb2 := hb1.trans (h12.mono hb1.size)
  have hT2 := hT1.up h12
  clear hx1 hx2 hT1 hb1 h12 HM
  go_wp2_with fail
  rw [← hw2, ← hX]
  clear hw2 hX
  obtain ⟨u, k, hTT⟩ : ∃ u k, addT t r = (u, k) := ⟨_, _, rfl⟩
  have hun := addT_lens t r hn
  rw [hTT] at hun
  have HTT := hide hTT
  clear hTT
  refine (add_u _ t r u k _ HTT.out hT2 hn).mono ?_
  rintro e w3 ⟨g, rfl, hO3, hb3⟩
  have hG3 := hO3.tbr
  obtain ⟨A3, n3, k3, A4, n4, k4, rfl⟩ := hO3.lit
  obtain ⟨G, hG⟩ : ∃ G, G = w3.heap.size := ⟨_, rfl⟩
  obtain ⟨w4, hw4⟩ : ∃ w4, w4 = w3.alloc (Obj.cells #[.slice A3 n3 k3, .slice A4 n4 k4] 30) := ⟨_, rfl⟩
  have h34 : Below w3.heap.size w3 w4 := by rw [hw4]; exact below1 _ _
  have HG4 := hide (show Blk w4 G 30 #[.slice A3 n3 k3, .slice A4 n4 k4] from by rw [hw4, hG]; exact Blk.new _ _ _)
  have hb24 := hb3.trans (h34.mono hb3.size)
  have a0 := (HX2.out.up hb24).cell 0
  have a1 := (HX2.out.up hb24).cell 1
  have a6 := (HQ2.out.up hb24).cell 0
  have a7 := (HQ2.out.up hb24).cell 1
  have a8 := (HQ2.out.up hb24).cell 2
  have hT4 := hT2.up hb24
  have hG4 := hG3.up h34
  clear hO3 hG3 hT2 hb3 h34
  rw [hw4] at a0 a1 a6 a7 a8
  go_wp2_with fail
  clear a0 a1 a6 a7 a8
  rw [← hw4, ← hG]
  clear hw4 hG
  refine (specAdd_u _ t r u k _ HTT.out hT4 hn).mono ?_
  rintro e w5 ⟨y, rfl, hO5, hb5⟩
  have hY5 := hO5.tbr
  obtain ⟨A5, n5, k5, A6, n6, k6, rfl⟩ := hO5.lit
  obtain ⟨Y, hY⟩ : ∃ Y, Y = w5.heap.size := ⟨_, rfl⟩
  obtain ⟨w6, hw6⟩ : ∃ w6, w6 = w5.alloc (Obj.cells #[.slice A5 n5 k5, .slice A6 n6 k6] 30) := ⟨_, rfl⟩
  have h56 : Below w5.heap.size w5 w6 := by rw [hw6]; exact below1 _ _
  have L6 : Lx w2 w6 X G Y #[.slice A1 t.routes.length c1, .slice A2 t.hops.length c2] #[.slice A3 n3 k3, .slice A4 n4 k4] #[.slice A5 n5 k5, .slice A6 n6 k6] (.agg #[.slice A1 t.routes.length c1, .slice A2 t.hops.length c2]) (.agg #[.slice A3 n3 k3, .slice A4 n4 k4]) (.agg #[.slice A5 n5 k5, .slice A6 n6 k6]) t u :=
    ⟨(hb24.trans (hb5.mono hb24.size)).trans (h56.mono (Nat.le_trans hb24.size hb5.size)), ((HX2.out.up hb24).up hb5).up h56, (HG4.out.up hb5).up h56, by rw [hw6, hY]; exact Blk.new _ _ _, (hT4.up hb5).up h56, (hG4.up hb5).up h56, hY5.up h56⟩
  have L6 := hide L6
  clear hO5 hY5 hT4 hG4 HX2 HG4 hb5 h56 hb24
  have hne : (k != k) = false := by simp
  have heq : (k == k) = true := by simp
  have a2 := L6.out.t6.cell 0
  have a3 := L6.out.t6.cell 1
  have a4 := L6.out.t8.cell 0
  have a5 := L6.out.t8.cell 1
  rw [hw6] at a2 a3 a4 a5
  rw [hY] at a4 a5
  go_wp2_with fail
  clear a2 a3 a4 a5
  rw [← hw6, ← hY]
  clear hw6 hY
  refine (sameT_any _ _ u u _ L6.out.hg L6.out.hy hun hun).mono ?_
  rintro e w7 ⟨rfl, hb7⟩
  rw [eqB_self]
  have L7 := hide (L6.out.below hb7)
  clear L6 hb7
  have a2 := L7.out.t6.cell 0
  have a3 := L7.out.t6.cell 1
  have a4 := L7.out.t8.cell 0
  have a5 := L7.out.t8.cell 1
  cases k with
  | false =>
    go_wp2_with fail
    refine (sameT_any _ _ u u _ L7.out.hg L7.out.hy hun hun).mono ?_
    rintro e w8 ⟨rfl, hb8⟩
    rw [eqB_self]
    have hbf := L7.out.bw.trans (hb8.mono L7.out.bw.size)
    go_wp2
    go_ret
    exact ⟨rfl, hb2.trans (hbf.mono hb2.size)⟩
  | true =>
    clear a2 a3 a4 a5
    have hb27 := hb2.trans (L7.out.bw.mono hb2.size)
    go_wp2_with fail
    refine (drawAdd_any _ cs _ (hv'.up hb27) HM'.out).mono ?_
    rintro e w8 ⟨x8, rv8, t8, rfl, ⟨s, rfl⟩, hT0, _, hb8⟩
    have hT8 := hT0 w8 (Kept.refl _ _)
    obtain ⟨x1, x2, rfl, hx1, hx2⟩ := hT8
    obtain ⟨A7, c7, rfl, _⟩ := hx1.form
    obtain ⟨A8, c8, rfl, _⟩ := hx2.form
    clear hT0 hx1 hx2 hb27
    go_upto_region 9 with fail
    obtain ⟨S, hS⟩ : ∃ S, S = w8.heap.size + 1 := ⟨_, rfl⟩
    obtain ⟨w9, hw9⟩ : ∃ w9, w9 = (w8.alloc (Obj.cells #[.slice A7 t8.routes.length c7, .slice A8 t8.hops.length c8] 30)).alloc (Obj.cells #[.int .i64 s.pre, .int .i64 s.bits, .int .i64 s.hop] 40) := ⟨_, rfl⟩
    have h89 : Below w8.heap.size w8 w9 := by rw [hw9]; exact below2 _ _ _
    have HS : Hid (Blk w9 S 40 #[.int .i64 s.pre, .int .i64 s.bits, .int .i64 s.hop]) := hide (by
      have h := Blk.new (w8.alloc (Obj.cells #[.slice A7 t8.routes.length c7, .slice A8 t8.hops.length c8] 30)) 40 #[.int .i64 s.pre, .int .i64 s.bits, .int .i64 s.hop]
      rw [hw9, hS]; simpa using h)
    have L9 := hide (L7.out.below (hb8.trans (h89.mono hb8.size)))
    rw [← hw9, ← hS]
    clear hw9 hS L7 hb8 h89
    have c0 := (HQ2.out.up L9.out.bw).cell 0
    have c1' := (HQ2.out.up L9.out.bw).cell 1
    have s0 := HS.out.cell 0
    have s1 := HS.out.cell 1
    obtain ⟨u1, k1, hT1⟩ : ∃ u1 k1, addT u s = (u1, k1) := ⟨_, _, rfl⟩
    obtain ⟨u2, k2, hT2⟩ : ∃ u2 k2, addT t s = (u2, k2) := ⟨_, _, rfl⟩
    have hun1 := addT_lens u s hun
    rw [hT1] at hun1
    have hun2 := addT_lens t s hn
    rw [hT2] at hun2
    by_cases hp : s.pre = r.pre
    · have p1 : (s.pre == r.pre) = true := by simp [hp]
      by_cases hq : s.bits = r.bits
      · have p2 : (s.bits == r.bits) = true := by simp [hq]
        have hbw := L9.out.bw
        clear hp hq hT1 hT2
        go_wp2
        go_ret
        exact ⟨rfl, hb2.trans (hbw.mono hb2.size)⟩
      · have p2 : (s.bits == r.bits) = false := by simp [hq]
        have HK : Hid (¬ Ky s r) := hide fun h => hq h.2
        clear hp hq
        go_upto_region 11 with fail
        have H1 := hide hT1
        have H2 := hide hT2
        clear hT1 hT2 c0 c1' s0 s1
        have a2 := L9.out.t6.cell 0
        have a3 := L9.out.t6.cell 1
        have s0 := HS.out.cell 0
        have s1 := HS.out.cell 1
        have s2 := HS.out.cell 2
        go_wp2_with fail
        refine (add_u _ u s u1 k1 _ H1.out L9.out.hg hun).mono ?_
        rintro e w10 ⟨y1, rfl, hO10, hb10⟩
        obtain ⟨B1, m1, l1, B2, m2, l2, rfl⟩ := hO10.lit
        go_upto_region 12 with fail
        obtain ⟨P, hP⟩ : ∃ P, P = w10.heap.size := ⟨_, rfl⟩
        obtain ⟨w11, hw11⟩ : ∃ w11, w11 = w10.alloc (Obj.cells #[.slice B1 m1 l1, .slice B2 m2 l2] 30) := ⟨_, rfl⟩
        have h1011 : Below w10.heap.size w10 w11 := by rw [hw11]; exact below1 _ _
        have HP : Hid (Blk w11 P 30 #[.slice B1 m1 l1, .slice B2 m2 l2]) := hide (by rw [hw11, hP]; exact Blk.new _ _ _)
        have h911 := hb10.trans (h1011.mono hb10.size)
        have L11 := hide (L9.out.below h911)
        have HS11 := hide (HS.out.up h911)
        have hT11 := hO10.tbr.up h1011
        rw [← hw11, ← hP]
        clear hw11 hP hO10 hb10 h1011 h911 L9 HS a2 a3 s0 s1 s2
        have s0 := HS11.out.cell 0
        have s1 := HS11.out.cell 1
        have s2 := HS11.out.cell 2
        have a0 := L11.out.t3.cell 0
        have a1 := L11.out.t3.cell 1
        go_wp2_with fail
        refine (add_u _ t s u2 k2 _ H2.out L11.out.hx hn).mono ?_
        rintro e w12 ⟨y2, rfl, hO12, hb12⟩
        obtain ⟨B3, m3, l3, B4, m4, l4, rfl⟩ := hO12.lit
        go_upto_region 13 with fail
        obtain ⟨R, hR⟩ : ∃ P, P = w12.heap.size := ⟨_, rfl⟩
        obtain ⟨w13, hw13⟩ : ∃ w13, w13 = w12.alloc (Obj.cells #[.slice B3 m3 l3, .slice B4 m4 l4] 30) := ⟨_, rfl⟩
        have h1213 : Below w12.heap.size w12 w13 := by rw [hw13]; exact below1 _ _
        have HR : Hid (Blk w13 R 30 #[.slice B3 m3 l3, .slice B4 m4 l4]) := hide (by rw [hw13, hR]; exact Blk.new _ _ _)
        have h1113 := hb12.trans (h1213.mono hb12.size)
        have L13 := hide (L11.out.below h1113)
        have HP13 := hide (HP.out.up h1113)
        have hT13 := hT11.up h1113
        have hS13 := hO12.tbr.up h1213
        rw [← hw13, ← hR]
        clear hw13 hR hO12 hb12 h1213 h1113 L11 HP HS11 hT11 a0 a1 s0 s1 s2
        have hbw := L13.out.bw
        cases k1 with
        | false =>
          go_wp2
          go_ret
          exact ⟨rfl, hb2.trans (hbw.mono hb2.size)⟩
        | true =>
          cases k2 with
          | false =>
            go_wp2
            go_ret
            exact ⟨rfl, hb2.trans (hbw.mono hb2.size)⟩
          | true =>
            have h3 : addT u2 r = (u1, true) := by
              have h := add_order (t := t) (r := r) (u := s) (by rw [HTT.out]) (by rw [HTT.out, H1.out]) (by rw [H2.out]) HK.out
              rw [HTT.out, H2.out] at h
              simp only at h
              rw [H1.out] at h
              exact h
            have H3 := hide h3
            clear h3
            have b0 := HR.out.cell 0
            have b1 := HR.out.cell 1
            have a6 := (HQ2.out.up L13.out.bw).cell 0
            have a7 := (HQ2.out.up L13.out.bw).cell 1
            have a8 := (HQ2.out.up L13.out.bw).cell 2
            go_wp2_with fail
            refine (add_u _ u2 r u1 true _ H3.out hS13 hun2).mono ?_
            rintro e w14 ⟨y3, rfl, hO14, hb14⟩
            obtain ⟨B5, m5, l5, B6, m6, l6, rfl⟩ := hO14.lit
            have h1415 := below1 w14 (.cells #[.slice B5 m5 l5, .slice B6 m6 l6] 30)
            have h1315 := hb14.trans (h1415.mono hb14.size)
            have HP15 := hide (HP13.out.up h1315)
            have hbw15 := hbw.trans (h1315.mono hbw.size)
            have hT15 := hT13.up h1315
            clear b0 b1 a6 a7 a8
            have p0 := HP15.out.cell 0
            have p1 := HP15.out.cell 1
            go_wp2_with fail
            refine (sameT_any _ _ u1 u1 _ (hO14.tbr.up h1415) hT15 hun1 hun1).mono ?_
            rintro e w16 ⟨rfl, hb16⟩
            rw [eqB_self]
            go_wp2
            go_ret
            exact ⟨rfl, hb2.trans ((hbw15.trans (hb16.mono hbw15.size)).mono hb2.size)⟩
    · have p1 : (s.pre == r.pre) = false := by simp [hp]
      have HK : Hid (¬ Ky s r) := hide fun h => hp h.1
      clear hp
      go_upto_region 11 with fail
      have H1 := hide hT1
      have H2 := hide hT2
      clear hT1 hT2 c0 c1' s0 s1
      have a2 := L9.out.t6.cell 0
      have a3 := L9.out.t6.cell 1
      have s0 := HS.out.cell 0
      have s1 := HS.out.cell 1
      have s2 := HS.out.cell 2
      go_wp2_with fail
      refine (add_u _ u s u1 k1 _ H1.out L9.out.hg hun).mono ?_
      rintro e w10 ⟨y1, rfl, hO10, hb10⟩
      obtain ⟨B1, m1, l1, B2, m2, l2, rfl⟩ := hO10.lit
      go_upto_region 12 with fail
      obtain ⟨P, hP⟩ : ∃ P, P = w10.heap.size := ⟨_, rfl⟩
      obtain ⟨w11, hw11⟩ : ∃ w11, w11 = w10.alloc (Obj.cells #[.slice B1 m1 l1, .slice B2 m2 l2] 30) := ⟨_, rfl⟩
      have h1011 : Below w10.heap.size w10 w11 := by rw [hw11]; exact below1 _ _
      have HP : Hid (Blk w11 P 30 #[.slice B1 m1 l1, .slice B2 m2 l2]) := hide (by rw [hw11, hP]; exact Blk.new _ _ _)
      have h911 := hb10.trans (h1011.mono hb10.size)
      have L11 := hide (L9.out.below h911)
      have HS11 := hide (HS.out.up h911)
      have hT11 := hO10.tbr.up h1011
      rw [← hw11, ← hP]
      clear hw11 hP hO10 hb10 h1011 h911 L9 HS a2 a3 s0 s1 s2
      have s0 := HS11.out.cell 0
      have s1 := HS11.out.cell 1
      have s2 := HS11.out.cell 2
      have a0 := L11.out.t3.cell 0
      have a1 := L11.out.t3.cell 1
      go_wp2_with fail
      refine (add_u _ t s u2 k2 _ H2.out L11.out.hx hn).mono ?_
      rintro e w12 ⟨y2, rfl, hO12, hb12⟩
      obtain ⟨B3, m3, l3, B4, m4, l4, rfl⟩ := hO12.lit
      go_upto_region 13 with fail
      obtain ⟨R, hR⟩ : ∃ P, P = w12.heap.size := ⟨_, rfl⟩
      obtain ⟨w13, hw13⟩ : ∃ w13, w13 = w12.alloc (Obj.cells #[.slice B3 m3 l3, .slice B4 m4 l4] 30) := ⟨_, rfl⟩
      have h1213 : Below w12.heap.size w12 w13 := by rw [hw13]; exact below1 _ _
      have HR : Hid (Blk w13 R 30 #[.slice B3 m3 l3, .slice B4 m4 l4]) := hide (by rw [hw13, hR]; exact Blk.new _ _ _)
      have h1113 := hb12.trans (h1213.mono hb12.size)
      have L13 := hide (L11.out.below h1113)
      have HP13 := hide (HP.out.up h1113)
      have hT13 := hT11.up h1113
      have hS13 := hO12.tbr.up h1213
      rw [← hw13, ← hR]
      clear hw13 hR hO12 hb12 h1213 h1113 L11 HP HS11 hT11 a0 a1 s0 s1 s2
      have hbw := L13.out.bw
      cases k1 with
      | false =>
        go_wp2
        go_ret
        exact ⟨rfl, hb2.trans (hbw.mono hb2.size)⟩
      | true =>
        cases k2 with
        | false =>
          go_wp2
          go_ret
          exact ⟨rfl, hb2.trans (hbw.mono hb2.size)⟩
        | true =>
          have h3 : addT u2 r = (u1, true) := by
            have h := add_order (t := t) (r := r) (u := s) (by rw [HTT.out]) (by rw [HTT.out, H1.out]) (by rw [H2.out]) HK.out
            rw [HTT.out, H2.out] at h
            simp only at h
            rw [H1.out] at h
            exact h
          have H3 := hide h3
          clear h3
          have b0 := HR.out.cell 0
          have b1 := HR.out.cell 1
          have a6 := (HQ2.out.up L13.out.bw).cell 0
          have a7 := (HQ2.out.up L13.out.bw).cell 1
          have a8 := (HQ2.out.up L13.out.bw).cell 2
          go_wp2_with fail
          refine (add_u _ u2 r u1 true _ H3.out hS13 hun2).mono ?_
          rintro e w14 ⟨y3, rfl, hO14, hb14⟩
          obtain ⟨B5, m5, l5, B6, m6, l6, rfl⟩ := hO14.lit
          have h1415 := below1 w14 (.cells #[.slice B5 m5 l5, .slice B6 m6 l6] 30)
          have h1315 := hb14.trans (h1415.mono hb14.size)
          have HP15 := hide (HP13.out.up h1315)
          have hbw15 := hbw.trans (h1315.mono hbw.size)
          have hT15 := hT13.up h1315
          clear b0 b1 a6 a7 a8
          have p0 := HP15.out.cell 0
          have p1 := HP15.out.cell 1
          go_wp2_with fail
          refine (sameT_any _ _ u1 u1 _ (hO14.tbr.up h1415) hT15 hun1 hun1).mono ?_
          rintro e w16 ⟨rfl, hb16⟩
          rw [eqB_self]
          go_wp2
          go_ret
          exact ⟨rfl, hb2.trans ((hbw15.trans (hb16.mono hbw15.size)).mono hb2.size)⟩
end Go.Proofs.Ytlkchocjldllgaa
