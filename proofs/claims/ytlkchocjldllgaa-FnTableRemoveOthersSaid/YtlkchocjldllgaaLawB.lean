/- The laws FnTableHopOthers, FnTableDefault, FnTableAddOrder, walked: each returns true for every two codes. Conditions: none. -/
import Derived.Test.YtlkchocjldllgaaLawA
import Derived.Test.YtlkchocjldllgaaMatch
namespace Go.Proofs.Ytlkchocjldllgaa
open Go.RowKit

theorem fd_ex (t : Tab) (a : Int) : ∀ k, k ≤ t.routes.length → ∃ b, Fd t a k b
  | 0, _ => ⟨_, Fd.zero t a⟩
  | k + 1, hk => by
    obtain ⟨b, hb⟩ := fd_ex t a k (by omega)
    obtain ⟨r, hr⟩ := get_some (l := t.routes) (i := k) (by omega)
    by_cases h : Mt r a ∧ FdBetter t b r
    · exact ⟨_, hb.take hr h.1 h.2⟩
    · exact ⟨_, hb.keep hr h⟩
theorem fdR_ex (t : Tab) (a : Int) : ∃ b, FdR t a b := by
  by_cases h : TV t ∧ (0 ≤ a ∧ a ≤ 255)
  · obtain ⟨b, hb⟩ := fd_ex t a t.routes.length (Nat.le_refl _)
    exact ⟨b, .inl ⟨h, hb⟩⟩
  · exact ⟨-1, .inr ⟨h, rfl⟩⟩
theorem hpR_ex (t : Tab) (a : Int) : ∃ h, HpR t a h := by
  obtain ⟨b, hb⟩ := fdR_ex t a
  by_cases h0 : b < 0
  · exact ⟨-1, b, hb, .inl ⟨h0, rfl⟩⟩
  · rcases hb.at with h | ⟨m, r, h1, h2, h3⟩
    · exact absurd h h0
    · have hV : TV t := by
        rcases hb with ⟨h, _⟩ | ⟨_, h⟩
        · exact h.1
        · omega
      have hrv := (hV.vl.rv r (List.mem_of_getElem? h3)).2.2.2
      obtain ⟨x, hx⟩ := get_some (l := t.hops) (i := r.hop.toNat) (by omega)
      exact ⟨x, b, hb, .inr ⟨r, by omega, by rw [h1, Int.toNat_natCast]; exact h3, hx⟩⟩
/-- TableHop's answer under a name. -/
theorem hop_is (v : Value) (t : Tab) (a h : Int) (w : World) (hv : TbR w w.heap.size v t) (hn : t.routes.length ≤ 1048576 ∧ t.hops.length ≤ 1048576) (hh : HpR t a h) :
    Calls Try.prog 30 #[v, .int .i64 a] w fun e w' => e = .returned (.int .i64 h) ∧ Below w.heap.size w w' :=
  (hop_any v t a w hv hn).mono fun _ _ ⟨h', he, hp, hb⟩ => ⟨by rw [he, hp.uniq hh], hb⟩
set_option maxRecDepth 100000 in
set_option maxHeartbeats 1600000 in
theorem lawTableHopOthers (v : Value) (bs : List Int) (v' : Value) (cs : List Int) (w : World) (hv : SlR bc 1 w w.heap.size v bs) (hm : bs.length ≤ 9223372036854775807 ∧ ∀ n ∈ bs, 0 ≤ n ∧ n ≤ 255)
    (hv' : SlR bc 1 w w.heap.size v' cs) (hm' : cs.length ≤ 9223372036854775807 ∧ ∀ n ∈ cs, 0 ≤ n ∧ n ≤ 255) :
    Calls Try.prog 19 #[v, v'] w fun e w' => e = .returned (.bool true) ∧ Below w.heap.size w w' := by
  have hvv := hv
  obtain ⟨A, cap, rfl, hc, hr⟩ := hvv
  have hvw := hv'
  obtain ⟨A', cap', rfl, hc', hr'⟩ := hvw
  have HM := hide hm
  have HM' := hide hm'
  have hm1 := hm.1
  have hm1' := hm'.1
  clear hm hm' hr hr' hc hc'
  by_cases hl : 1048576 < bs.length
  · go_enter Try.func19, Try.ntmps19
    go_wp2
    go_ret
    exact ⟨rfl, Below.refl _ _⟩
  by_cases hl' : 1048576 < cs.length
  · go_enter Try.func19, Try.ntmps19
    go_wp2
    go_ret
    exact ⟨rfl, Below.refl _ _⟩
  go_enter Try.func19, Try.ntmps19
  go_wp2_with fail
  refine (drawAdd_any _ bs _ hv HM.out).mono ?_
  rintro e w1 ⟨x, rv, t, rfl, ⟨r, rfl⟩, hT0, ⟨hl1, hl2⟩, hb1⟩
  have hT1 := hT0 w1 (Kept.refl _ _)
  clear hT0
  have hn : t.routes.length ≤ 1048576 ∧ t.hops.length ≤ 1048576 := by omega
  have hT1' := hT1
  obtain ⟨x1, x2, rfl, hx1, hx2⟩ := hT1'
  obtain ⟨A1, c1, rfl, hc1⟩ := hx1.form
  obtain ⟨A2, c2, rfl, hc2⟩ := hx2.form
  obtain ⟨X, hX⟩ : ∃ X, X = w1.heap.size := ⟨_, rfl⟩
  obtain ⟨w2, hw2⟩ : ∃ w2, w2 = (w1.alloc (Obj.cells #[.slice A1 t.routes.length c1, .slice A2 t.hops.length c2] 30)).alloc (Obj.cells #[.int .i64 r.pre, .int .i64 r.bits, .int .i64 r.hop] 40) := ⟨_, rfl⟩
  have h12 : Below w1.heap.size w1 w2 := by rw [hw2]; exact below2 _ _ _
  have HX2 := hide (show Blk w2 X 30 #[.slice A1 t.routes.length c1, .slice A2 t.hops.length c2] from by rw [hw2, hX]; exact (Blk.new _ _ _).alloc _)
  have HQ2 := hide (show Blk w2 (X + 1) 40 #[.int .i64 r.pre, .int .i64 r.bits, .int .i64 r.hop] from by
    rw [hw2, hX]
    have h := Blk.new (w1.alloc (Obj.cells #[.slice A1 t.routes.length c1, .slice A2 t.hops.length c2] 30)) 40 #[.int .i64 r.pre, .int .i64 r.bits, .int .i64 r.hop]
    simpa using h)
  have hb2 := hb1.trans (h12.mono hb1.size)
  have hT2 := hT1.up h12
  clear hx1 hx2 hT1 hb1 h12 HM
  go_wp2_with fail
  rw [← hw2, ← hX]
  clear hw2 hX
  obtain ⟨u, k, hTT⟩ : ∃ u k, addT t r = (u, k) := ⟨_, _, rfl⟩
  have hun := addT_lens t r hn
  rw [hTT] at hun
  have HTT := hide hTT
  clear hTT
  refine (add_u _ t r u k _ HTT.out hT2 hn).mono ?_
  rintro e w3 ⟨g, rfl, hO3, hb3⟩
  have hG3 := hO3.tbr
  obtain ⟨A3, n3, k3, A4, n4, k4, rfl⟩ := hO3.lit
  obtain ⟨G, hG⟩ : ∃ G, G = w3.heap.size := ⟨_, rfl⟩
  obtain ⟨w4, hw4⟩ : ∃ w4, w4 = w3.alloc (Obj.cells #[.slice A3 n3 k3, .slice A4 n4 k4] 30) := ⟨_, rfl⟩
  have h34 : Below w3.heap.size w3 w4 := by rw [hw4]; exact below1 _ _
  have HG4 := hide (show Blk w4 G 30 #[.slice A3 n3 k3, .slice A4 n4 k4] from by rw [hw4, hG]; exact Blk.new _ _ _)
  have hb24 := hb3.trans (h34.mono hb3.size)
  have a0 := (HX2.out.up hb24).cell 0
  have a1 := (HX2.out.up hb24).cell 1
  have a6 := (HQ2.out.up hb24).cell 0
  have a7 := (HQ2.out.up hb24).cell 1
  have a8 := (HQ2.out.up hb24).cell 2
  have hT4 := hT2.up hb24
  have hG4 := hG3.up h34
  clear hO3 hG3 hT2 hb3 h34
  rw [hw4] at a0 a1 a6 a7 a8
  go_wp2_with fail
  clear a0 a1 a6 a7 a8
  rw [← hw4, ← hG]
  clear hw4 hG
  refine (specAdd_u _ t r u k _ HTT.out hT4 hn).mono ?_
  rintro e w5 ⟨y, rfl, hO5, hb5⟩
  have hY5 := hO5.tbr
  obtain ⟨A5, n5, k5, A6, n6, k6, rfl⟩ := hO5.lit
  obtain ⟨Y, hY⟩ : ∃ Y, Y = w5.heap.size := ⟨_, rfl⟩
  obtain ⟨w6, hw6⟩ : ∃ w6, w6 = w5.alloc (Obj.cells #[.slice A5 n5 k5, .slice A6 n6 k6] 30) := ⟨_, rfl⟩
  have h56 : Below w5.heap.size w5 w6 := by rw [hw6]; exact below1 _ _
  have L6 : Lx w2 w6 X G Y #[.slice A1 t.routes.length c1, .slice A2 t.hops.length c2] #[.slice A3 n3 k3, .slice A4 n4 k4] #[.slice A5 n5 k5, .slice A6 n6 k6] (.agg #[.slice A1 t.routes.length c1, .slice A2 t.hops.length c2]) (.agg #[.slice A3 n3 k3, .slice A4 n4 k4]) (.agg #[.slice A5 n5 k5, .slice A6 n6 k6]) t u :=
    ⟨(hb24.trans (hb5.mono hb24.size)).trans (h56.mono (Nat.le_trans hb24.size hb5.size)), ((HX2.out.up hb24).up hb5).up h56, (HG4.out.up hb5).up h56, by rw [hw6, hY]; exact Blk.new _ _ _, (hT4.up hb5).up h56, (hG4.up hb5).up h56, hY5.up h56⟩
  have L6 := hide L6
  clear hO5 hY5 hT4 hG4 HX2 HG4 hb5 h56 hb24
  have hne : (k != k) = false := by simp
  have heq : (k == k) = true := by simp
  have a2 := L6.out.t6.cell 0
  have a3 := L6.out.t6.cell 1
  have a4 := L6.out.t8.cell 0
  have a5 := L6.out.t8.cell 1
  rw [hw6] at a2 a3 a4 a5
  rw [hY] at a4 a5
  go_wp2_with fail
  clear a2 a3 a4 a5
  rw [← hw6, ← hY]
  clear hw6 hY
  refine (sameT_any _ _ u u _ L6.out.hg L6.out.hy hun hun).mono ?_
  rintro e w7 ⟨rfl, hb7⟩
  rw [eqB_self]
  have L7 := hide (L6.out.below hb7)
  clear L6 hb7
  have a2 := L7.out.t6.cell 0
  have a3 := L7.out.t6.cell 1
  have a4 := L7.out.t8.cell 0
  have a5 := L7.out.t8.cell 1
  cases k with
  | false =>
    go_wp2_with fail
    refine (sameT_any _ _ u u _ L7.out.hg L7.out.hy hun hun).mono ?_
    rintro e w8 ⟨rfl, hb8⟩
    rw [eqB_self]
    have hbf := L7.out.bw.trans (hb8.mono L7.out.bw.size)
    go_wp2
    go_ret
    exact ⟨rfl, hb2.trans (hbf.mono hb2.size)⟩
  | true =>
    have hok : (addT t r).2 = true := by rw [HTT.out]
    obtain ⟨hV, hR, _, _⟩ := addT_ok hok
    obtain ⟨a, ha⟩ : ∃ a : Int, a = (cs.length : Int) * 7 % 256 := ⟨_, rfl⟩
    have ha0 : 0 ≤ a ∧ a ≤ 255 := by omega
    obtain ⟨h, hh⟩ := hpR_ex u a
    have hh' : ¬ Mt r a → HpR t a h := fun hno => by
      obtain ⟨h', hh'⟩ := hpR_ex t a
      have := hop_add hok ha0 hno (by rw [HTT.out]; exact hh) hh'
      rw [this]
      exact hh'
    have HH := hide hh
    have HH' := hide hh'
    have HR := hide hR
    clear hh hh' hok hV hR
    clear a2 a3 a4 a5
    have a0 := L7.out.t3.cell 0
    have a1 := L7.out.t3.cell 1
    have a2 := L7.out.t6.cell 0
    have a3 := L7.out.t6.cell 1
    have a6 := (HQ2.out.up L7.out.bw).cell 0
    have a7 := (HQ2.out.up L7.out.bw).cell 1
    have a8 := (HQ2.out.up L7.out.bw).cell 2
    go_upto_region 9 with fail
    rw [← ha]
    clear ha
    obtain ⟨ha1, ha2⟩ := ha0
    have e0 := fun y => wext_cell w7 y a0
    have e1 := fun y => wext_cell w7 y a1
    have e2 := fun y => wext_cell w7 y a2
    have e3 := fun y => wext_cell w7 y a3
    have e6 := fun y => wext_cell w7 y a6
    have e7 := fun y => wext_cell w7 y a7
    have e8 := fun y => wext_cell w7 y a8
    have hmt := fun W => matches_any r a W HR.out.1 HR.out.2.1 HR.out.2.2.1 ⟨ha1, ha2⟩
    have hq1 : ∀ y, Calls Try.prog 30 #[.agg #[.slice A3 n3 k3, .slice A4 n4 k4], .int .i64 a] (wext w7 y) fun e w' => e = .returned (.int .i64 h) ∧ Below (wext w7 y).heap.size (wext w7 y) w' := fun y => hop_is _ u a h _ (L7.out.hg.up (wext_below w7 y)) hun HH.out
    have HQ1 := hide hq1
    clear hq1
    have hhh : (h == h) = true := by simp
    have hbw := L7.out.bw
    by_cases hmr : Mt r a
    · rw [tb_yes hmr] at hmt
      have HM2 := hide hmt
      clear hmt hmr
      refine region_q (by kernel_rfl) (by kernel_rfl) ?_
      repeat (go_big_quiet_step ((first | (go_at_call 31; exact q_call (HM2.out _)))))
      refine wpQuiet_nil ?_
      intro wx hbx
      go_wp2
      go_ret
      exact ⟨rfl, hb2.trans ((hbw.trans (hbx.mono hbw.size)).mono hb2.size)⟩
    · rw [tb_no hmr] at hmt
      have hq2 : ∀ y, Calls Try.prog 30 #[.agg #[.slice A1 t.routes.length c1, .slice A2 t.hops.length c2], .int .i64 a] (wext w7 y) fun e w' => e = .returned (.int .i64 h) ∧ Below (wext w7 y).heap.size (wext w7 y) w' := fun y => hop_is _ t a h _ (L7.out.hx.up (wext_below w7 y)) hn (HH'.out hmr)
      have HQ3 := hide hq2
      have HM2 := hide hmt
      clear hmt hmr hq2
      refine region_q (by kernel_rfl) (by kernel_rfl) ?_
      repeat (go_big_quiet_step ((first | (go_at_call 31; exact q_call (HM2.out _)) | (go_at_call 30; with_reducible exact q_call (HQ1.out _)) | (go_at_call 30; with_reducible exact q_call (HQ3.out _)))))
      refine wpQuiet_nil ?_
      intro wx hbx
      go_wp2
      go_ret
      exact ⟨rfl, hb2.trans ((hbw.trans (hbx.mono hbw.size)).mono hb2.size)⟩
set_option maxRecDepth 100000 in
set_option maxHeartbeats 1600000 in
theorem lawTableDefault (v : Value) (bs : List Int) (v' : Value) (cs : List Int) (w : World) (hv : SlR bc 1 w w.heap.size v bs) (hm : bs.length ≤ 9223372036854775807 ∧ ∀ n ∈ bs, 0 ≤ n ∧ n ≤ 255)
    (hv' : SlR bc 1 w w.heap.size v' cs) (hm' : cs.length ≤ 9223372036854775807 ∧ ∀ n ∈ cs, 0 ≤ n ∧ n ≤ 255) :
    Calls Try.prog 18 #[v, v'] w fun e w' => e = .returned (.bool true) ∧ Below w.heap.size w w' := by
  have hvv := hv
  obtain ⟨A, cap, rfl, hc, hr⟩ := hvv
  have hvw := hv'
  obtain ⟨A', cap', rfl, hc', hr'⟩ := hvw
  have HM := hide hm
  have HM' := hide hm'
  have hm1 := hm.1
  have hm1' := hm'.1
  clear hm hm' hr hr' hc hc'
  by_cases hl : 1048576 < bs.length
  · go_enter Try.func18, Try.ntmps18
    go_wp2
    go_ret
    exact ⟨rfl, Below.refl _ _⟩
  by_cases hl' : 1048576 < cs.length
  · go_enter Try.func18, Try.ntmps18
    go_wp2
    go_ret
    exact ⟨rfl, Below.refl _ _⟩
  go_enter Try.func18, Try.ntmps18
  go_wp2_with fail
  refine (drawAdd_any _ bs _ hv HM.out).mono ?_
  rintro e w1 ⟨x, rv, t, rfl, ⟨r, rfl⟩, hT0, ⟨hl1, hl2⟩, hb1⟩
  have hT1 := hT0 w1 (Kept.refl _ _)
  clear hT0
  have hn : t.routes.length ≤ 1048576 ∧ t.hops.length ≤ 1048576 := by omega
  have hT1' := hT1
  obtain ⟨x1, x2, rfl, hx1, hx2⟩ := hT1'
  obtain ⟨A1, c1, rfl, hc1⟩ := hx1.form
  obtain ⟨A2, c2, rfl, hc2⟩ := hx2.form
  obtain ⟨X, hX⟩ : ∃ X, X = w1.heap.size := ⟨_, rfl⟩
  obtain ⟨w2, hw2⟩ : ∃ w2, w2 = (w1.alloc (Obj.cells #[.slice A1 t.routes.length c1, .slice A2 t.hops.length c2] 30)).alloc (Obj.cells #[.int .i64 r.pre, .int .i64 r.bits, .int .i64 r.hop] 40) := ⟨_, rfl⟩
  have h12 : Below w1.heap.size w1 w2 := by rw [hw2]; exact below2 _ _ _
  have HX2 := hide (show Blk w2 X 30 #[.slice A1 t.routes.length c1, .slice A2 t.hops.length c2] from by rw [hw2, hX]; exact (Blk.new _ _ _).alloc _)
  have HQ2 := hide (show Blk w2 (X + 1) 40 #[.int .i64 r.pre, .int .i64 r.bits, .int .i64 r.hop] from by
    rw [hw2, hX]
    have h := Blk.new (w1.alloc (Obj.cells #[.slice A1 t.routes.length c1, .slice A2 t.hops.length c2] 30)) 40 #[.int .i64 r.pre, .int .i64 r.bits, .int .i64 r.hop]
    simpa using h)
  have hb2 := hb1.trans (h12.mono hb1.size)
  have hT2 := hT1.up h12
  clear hx1 hx2 hT1 hb1 h12 HM
  go_wp2_with fail
  rw [← hw2, ← hX]
  clear hw2 hX
  obtain ⟨u, k, hTT⟩ : ∃ u k, addT t r = (u, k) := ⟨_, _, rfl⟩
  have hun := addT_lens t r hn
  rw [hTT] at hun
  have HTT := hide hTT
  clear hTT
  refine (add_u _ t r u k _ HTT.out hT2 hn).mono ?_
  rintro e w3 ⟨g, rfl, hO3, hb3⟩
  have hG3 := hO3.tbr
  obtain ⟨A3, n3, k3, A4, n4, k4, rfl⟩ := hO3.lit
  obtain ⟨G, hG⟩ : ∃ G, G = w3.heap.size := ⟨_, rfl⟩
  obtain ⟨w4, hw4⟩ : ∃ w4, w4 = w3.alloc (Obj.cells #[.slice A3 n3 k3, .slice A4 n4 k4] 30) := ⟨_, rfl⟩
  have h34 : Below w3.heap.size w3 w4 := by rw [hw4]; exact below1 _ _
  have HG4 := hide (show Blk w4 G 30 #[.slice A3 n3 k3, .slice A4 n4 k4] from by rw [hw4, hG]; exact Blk.new _ _ _)
  have hb24 := hb3.trans (h34.mono hb3.size)
  have a0 := (HX2.out.up hb24).cell 0
  have a1 := (HX2.out.up hb24).cell 1
  have a6 := (HQ2.out.up hb24).cell 0
  have a7 := (HQ2.out.up hb24).cell 1
  have a8 := (HQ2.out.up hb24).cell 2
  have hT4 := hT2.up hb24
  have hG4 := hG3.up h34
  clear hO3 hG3 hT2 hb3 h34
  rw [hw4] at a0 a1 a6 a7 a8
  go_wp2_with fail
  clear a0 a1 a6 a7 a8
  rw [← hw4, ← hG]
  clear hw4 hG
  refine (specAdd_u _ t r u k _ HTT.out hT4 hn).mono ?_
  rintro e w5 ⟨y, rfl, hO5, hb5⟩
  have hY5 := hO5.tbr
  obtain ⟨A5, n5, k5, A6, n6, k6, rfl⟩ := hO5.lit
  obtain ⟨Y, hY⟩ : ∃ Y, Y = w5.heap.size := ⟨_, rfl⟩
  obtain ⟨w6, hw6⟩ : ∃ w6, w6 = w5.alloc (Obj.cells #[.slice A5 n5 k5, .slice A6 n6 k6] 30) := ⟨_, rfl⟩
  have h56 : Below w5.heap.size w5 w6 := by rw [hw6]; exact below1 _ _
  have L6 : Lx w2 w6 X G Y #[.slice A1 t.routes.length c1, .slice A2 t.hops.length c2] #[.slice A3 n3 k3, .slice A4 n4 k4] #[.slice A5 n5 k5, .slice A6 n6 k6] (.agg #[.slice A1 t.routes.length c1, .slice A2 t.hops.length c2]) (.agg #[.slice A3 n3 k3, .slice A4 n4 k4]) (.agg #[.slice A5 n5 k5, .slice A6 n6 k6]) t u :=
    ⟨(hb24.trans (hb5.mono hb24.size)).trans (h56.mono (Nat.le_trans hb24.size hb5.size)), ((HX2.out.up hb24).up hb5).up h56, (HG4.out.up hb5).up h56, by rw [hw6, hY]; exact Blk.new _ _ _, (hT4.up hb5).up h56, (hG4.up hb5).up h56, hY5.up h56⟩
  have L6 := hide L6
  clear hO5 hY5 hT4 hG4 HX2 HG4 hb5 h56 hb24
  have hne : (k != k) = false := by simp
  have heq : (k == k) = true := by simp
  have a2 := L6.out.t6.cell 0
  have a3 := L6.out.t6.cell 1
  have a4 := L6.out.t8.cell 0
  have a5 := L6.out.t8.cell 1
  rw [hw6] at a2 a3 a4 a5
  rw [hY] at a4 a5
  go_wp2_with fail
  clear a2 a3 a4 a5
  rw [← hw6, ← hY]
  clear hw6 hY
  refine (sameT_any _ _ u u _ L6.out.hg L6.out.hy hun hun).mono ?_
  rintro e w7 ⟨rfl, hb7⟩
  rw [eqB_self]
  have L7 := hide (L6.out.below hb7)
  clear L6 hb7
  have a2 := L7.out.t6.cell 0
  have a3 := L7.out.t6.cell 1
  have a4 := L7.out.t8.cell 0
  have a5 := L7.out.t8.cell 1
  cases k with
  | false =>
    go_wp2_with fail
    refine (sameT_any _ _ u u _ L7.out.hg L7.out.hy hun hun).mono ?_
    rintro e w8 ⟨rfl, hb8⟩
    rw [eqB_self]
    have hbf := L7.out.bw.trans (hb8.mono L7.out.bw.size)
    go_wp2
    go_ret
    exact ⟨rfl, hb2.trans (hbf.mono hb2.size)⟩
  | true =>
    obtain ⟨u2, k2, hT2⟩ : ∃ u2 k2, addT u ⟨0, 0, r.hop⟩ = (u2, k2) := ⟨_, _, rfl⟩
    have hun2 := addT_lens u ⟨0, 0, r.hop⟩ hun
    rw [hT2] at hun2
    have HT2 := hide hT2
    clear hT2 a2 a3 a4 a5
    have a2 := L7.out.t6.cell 0
    have a3 := L7.out.t6.cell 1
    have a6 := (HQ2.out.up L7.out.bw).cell 0
    have a7 := (HQ2.out.up L7.out.bw).cell 1
    have a8 := (HQ2.out.up L7.out.bw).cell 2
    go_wp2_with fail
    refine (add_u _ u ⟨0, 0, r.hop⟩ u2 k2 _ HT2.out L7.out.hg hun).mono ?_
    rintro e w8 ⟨z, rfl, hO8, hb8⟩
    have hbw := L7.out.bw
    have hbw8 := hbw.trans (hb8.mono hbw.size)
    obtain ⟨A7, n7, k7, A8, n8, k8, rfl⟩ := hO8.lit
    have h89 := below1 w8 (.cells #[.slice A7 n7 k7, .slice A8 n8 k8] 30)
    have hbw9 := hbw8.trans (h89.mono hbw8.size)
    clear a2 a3 a6 a7 a8
    cases k2 with
    | false =>
      go_wp2
      go_ret
      exact ⟨rfl, hb2.trans (hbw9.mono hb2.size)⟩
    | true =>
      have ha0 : 0 ≤ (cs.length : Int) * 11 % 256 ∧ (cs.length : Int) * 11 % 256 ≤ 255 := by omega
      go_wp2_with fail
      refine (find_any _ u2 _ _ (hO8.tbr.up h89) hun2).mono ?_
      rintro e w10 ⟨b, rfl, hF, hb10⟩
      have hb0 : 0 ≤ b := find_default (t := u) (n := r.hop) (by rw [HT2.out]) ha0 (by rw [HT2.out]; exact hF)
      clear hF
      go_wp2
      go_ret
      exact ⟨rfl, hb2.trans ((hbw9.trans (hb10.mono hbw9.size)).mono hb2.size)⟩
end Go.Proofs.Ytlkchocjldllgaa
