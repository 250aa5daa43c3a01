/- The laws FnTableTurn, FnTableTurnCount, walked: each returns true for every code. Conditions: none. -/
import Derived.Test.YtlkchocjldllgaaDrawU
import Derived.Test.YtlkchocjldllgaaExact3
import Derived.Test.YtlkchocjldllgaaTabQ
namespace Go.Proofs.Ytlkchocjldllgaa
open Go.RowKit

/-- What a law keeps: a drawn table x (t), the program's answer g and the model's y (u), each with its box. -/
structure Lx (w W : World) (b3 b6 b8 : Nat) (c3 c6 c8 : Array Value) (x g y : Value) (t u : Tab) : Prop where
  bw : Below w.heap.size w W
  t3 : Blk W b3 30 c3
  t6 : Blk W b6 30 c6
  t8 : Blk W b8 30 c8
  hx : TbR W W.heap.size x t
  hg : TbR W W.heap.size g u
  hy : TbR W W.heap.size y u
theorem Lx.below {w W W' : World} {b3 b6 b8 : Nat} {c3 c6 c8 : Array Value} {x g y : Value} {t u : Tab} (h : Lx w W b3 b6 b8 c3 c6 c8 x g y t u) (hb : Below W.heap.size W W') : Lx w W' b3 b6 b8 c3 c6 c8 x g y t u :=
  ⟨h.bw.trans (hb.mono h.bw.size), h.t3.up hb, h.t6.up hb, h.t8.up hb, h.hx.up hb, h.hg.up hb, h.hy.up hb⟩
theorem turn_hop1 {t : Tab} {h n a b c : Int} (hn : TV t ∧ (0 ≤ h ∧ h ≤ t.hops.length - 1) ∧ (0 ≤ n ∧ n ≤ 7)) (hf : FdR t a b) (x : HpR (turnT t h n).1 a c) :
    ∀ r, 0 ≤ b → t.routes[b.toNat]? = some r → r.hop = h → c = n := by
  obtain ⟨d, hd, x⟩ := x
  obtain rfl := turn_find hn hf hd
  rw [turnT_yes hn] at x
  intro r h0 hr hh
  rcases x with ⟨x, _⟩ | ⟨r', _, x, x'⟩
  · omega
  · rw [hr] at x
    cases x
    rw [hh, List.getElem?_set_self (by omega)] at x'
    exact (Option.some.inj x').symm
theorem FdR.at {t : Tab} {a b : Int} (h : FdR t a b) : b < 0 ∨ ∃ (m : Nat) (r : Rt), b = m ∧ m < t.routes.length ∧ t.routes[m]? = some r := by
  rcases h with ⟨_, h⟩ | ⟨_, h⟩
  · rcases h with ⟨h, _⟩ | ⟨m, q, h1, h2, h3, _⟩
    · exact .inl (by omega)
    · exact .inr ⟨m, q, h1, h2, h3⟩
  · exact .inl (by omega)
theorem turn_ok {t u : Tab} {h n k : Int} (hT : turnT t h n = (u, k)) (hk : ¬ k < 0) : TV t ∧ (0 ≤ h ∧ h ≤ t.hops.length - 1) ∧ (0 ≤ n ∧ n ≤ 7) := by
  by_cases hn : TV t ∧ (0 ≤ h ∧ h ≤ t.hops.length - 1) ∧ (0 ≤ n ∧ n ≤ 7)
  · exact hn
  · rw [turnT_no hn] at hT
    cases hT
    omega

set_option maxRecDepth 100000 in
set_option maxHeartbeats 1600000 in
theorem lawTableTurn (v : Value) (bs : List Int) (w : World) (hv : SlR bc 1 w w.heap.size v bs) (hm : bs.length ≤ 9223372036854775807 ∧ ∀ n ∈ bs, 0 ≤ n ∧ n ≤ 255) :
    Calls Try.prog 10 #[v] w fun e w' => e = .returned (.bool true) ∧ Below w.heap.size w w' := by
  by_cases hl : 1048576 < bs.length
  · obtain ⟨A, cap, rfl, hc, hr⟩ := hv
    clear hr hm
    go_enter Try.func10, Try.ntmps10
    go_wp2
    go_ret
    exact ⟨rfl, Below.refl _ _⟩
  have hvv := hv
  obtain ⟨A, cap, rfl, hc, hr⟩ := hvv
  have HM := hide hm
  clear hm hr hc
  go_enter Try.func10, Try.ntmps10
  go_wp2_with fail
  refine (drawTurn_any _ bs _ hv HM.out).mono ?_
  rintro e w1 ⟨x, h, n, t, rfl, hT0, ⟨hl1, hl2⟩, hb1⟩
  have hT1 := hT0 w1 (Kept.refl _ _)
  clear hT0
  have hn : t.routes.length ≤ 1048576 ∧ t.hops.length ≤ 1048576 := by omega
  have hT1' := hT1
  obtain ⟨x1, x2, rfl, hx1, hx2⟩ := hT1'
  obtain ⟨A1, c1, rfl, hc1⟩ := hx1.form
  obtain ⟨A2, c2, rfl, hc2⟩ := hx2.form
  obtain ⟨X, hX⟩ : ∃ X, X = w1.heap.size := ⟨_, rfl⟩
  obtain ⟨w2, hw2⟩ : ∃ w2, w2 = w1.alloc (Obj.cells #[.slice A1 t.routes.length c1, .slice A2 t.hops.length c2] 30) := ⟨_, rfl⟩
  have h12 : Below w1.heap.size w1 w2 := by rw [hw2]; exact below1 _ _
  have HX2 := hide (show Blk w2 X 30 #[.slice A1 t.routes.length c1, .slice A2 t.hops.length c2] from by rw [hw2, hX]; exact Blk.new _ _ _)
  have hb2 := hb1.trans (h12.mono hb1.size)
  have hT2 := hT1.up h12
  clear hx1 hx2 hT1 hb1 h12 HM
  go_wp2_with fail
  rw [← hw2, ← hX]
  clear hw2 hX
  obtain ⟨u, k, hTT⟩ : ∃ u k, turnT t h n = (u, k) := ⟨_, _, rfl⟩
  have hul := turnT_len t h n
  rw [hTT] at hul
  have hun : u.routes.length ≤ 1048576 ∧ u.hops.length ≤ 1048576 := ⟨Nat.le_trans hul.1 hn.1, Nat.le_trans hul.2 hn.2⟩
  have HTT := hide hTT
  clear hTT hul
  refine (turn_u _ t h n u k _ HTT.out hT2 hn).mono ?_
  rintro e w3 ⟨g, rfl, hO3, hb3⟩
  have hG3 := hO3.tbr
  obtain ⟨A3, n3, k3, A4, n4, k4, rfl⟩ := hO3.lit
  obtain ⟨G, hG⟩ : ∃ G, G = w3.heap.size := ⟨_, rfl⟩
  obtain ⟨w4, hw4⟩ : ∃ w4, w4 = w3.alloc (Obj.cells #[.slice A3 n3 k3, .slice A4 n4 k4] 30) := ⟨_, rfl⟩
  have h34 : Below w3.heap.size w3 w4 := by rw [hw4]; exact below1 _ _
  have HG4 := hide (show Blk w4 G 30 #[.slice A3 n3 k3, .slice A4 n4 k4] from by rw [hw4, hG]; exact Blk.new _ _ _)
  have HX4 := hide ((HX2.out.up hb3).up h34)
  have a0 := HX4.out.cell 0
  have a1 := HX4.out.cell 1
  have hT4 := (hT2.up hb3).up h34
  have hG4 := hG3.up h34
  have hb4 := (hb2.trans (hb3.mono hb2.size)).trans (h34.mono (Nat.le_trans hb2.size hb3.size))
  clear hO3 hG3 hT2 HX2 hb2 hb3 h34
  rw [hw4] at a0 a1
  go_wp2_with fail
  clear a0 a1
  rw [← hw4, ← hG]
  clear hw4 hG
  refine (specTurn_u _ t h n u k _ HTT.out hT4 hn).mono ?_
  rintro e w5 ⟨y, rfl, hO5, hb5⟩
  have hY5 := hO5.tbr
  obtain ⟨A5, n5, k5, A6, n6, k6, rfl⟩ := hO5.lit
  obtain ⟨Y, hY⟩ : ∃ Y, Y = w5.heap.size := ⟨_, rfl⟩
  obtain ⟨w6, hw6⟩ : ∃ w6, w6 = w5.alloc (Obj.cells #[.slice A5 n5 k5, .slice A6 n6 k6] 30) := ⟨_, rfl⟩
  have h56 : Below w5.heap.size w5 w6 := by rw [hw6]; exact below1 _ _
  have L6 : Lx w w6 X G Y #[.slice A1 t.routes.length c1, .slice A2 t.hops.length c2] #[.slice A3 n3 k3, .slice A4 n4 k4] #[.slice A5 n5 k5, .slice A6 n6 k6] (.agg #[.slice A1 t.routes.length c1, .slice A2 t.hops.length c2]) (.agg #[.slice A3 n3 k3, .slice A4 n4 k4]) (.agg #[.slice A5 n5 k5, .slice A6 n6 k6]) t u :=
    ⟨(hb4.trans (hb5.mono hb4.size)).trans (h56.mono (Nat.le_trans hb4.size hb5.size)), (HX4.out.up hb5).up h56, (HG4.out.up hb5).up h56, by rw [hw6, hY]; exact Blk.new _ _ _, (hT4.up hb5).up h56, (hG4.up hb5).up h56, hY5.up h56⟩
  have L6 := hide L6
  clear hO5 hY5 hT4 hG4 HX4 HG4 hb4 hb5 h56
  have hne : (k != k) = false := by simp
  have heq : (k == k) = true := by simp
  have a2 := L6.out.t6.cell 0
  have a3 := L6.out.t6.cell 1
  have a4 := L6.out.t8.cell 0
  have a5 := L6.out.t8.cell 1
  rw [hw6] at a2 a3 a4 a5
  rw [hY] at a4 a5
  go_wp2_with fail
  clear a2 a3 a4 a5
  rw [← hw6, ← hY]
  clear hw6 hY
  refine (sameT_any _ _ u u _ L6.out.hg L6.out.hy hun hun).mono ?_
  rintro e w7 ⟨rfl, hb7⟩
  rw [eqB_self]
  have L7 := hide (L6.out.below hb7)
  clear L6 hb7
  have a2 := L7.out.t6.cell 0
  have a3 := L7.out.t6.cell 1
  have a4 := L7.out.t8.cell 0
  have a5 := L7.out.t8.cell 1
  by_cases hk : k < 0
  · go_wp2_with fail
    refine (sameT_any _ _ u u _ L7.out.hg L7.out.hy hun hun).mono ?_
    rintro e w8 ⟨rfl, hb8⟩
    rw [eqB_self]
    go_wp2
    go_ret
    exact ⟨rfl, L7.out.bw.trans (hb8.mono L7.out.bw.size)⟩
  have HN := hide (turn_ok HTT.out hk)
  clear a2 a3 a4 a5
  obtain ⟨wb, hwb⟩ : ∃ wb, wb = w7 := ⟨_, rfl⟩
  subst hwb
  go_wp2
  go_loopg [10] 256 (fun g iv wr => ∃ k : Nat, k + g = 256 ∧ iv = .int .i64 k ∧ Below wb.heap.size wb wr)
  case atStart => exact ⟨0, by omega, rfl, Below.refl _ _⟩
  case round =>
    obtain ⟨a, ha, rfl, hbe⟩ := hrel
    have L8 := hide (L7.out.below hbe)
    by_cases hlt : a < 256
    · have a0 := L8.out.t3.cell 0
      have a1 := L8.out.t3.cell 1
      go_wp2_with fail
      refine (find_any _ t a _ L8.out.hx hn).mono ?_
      rintro e w9 ⟨b, rfl, hF, hb9⟩
      have L9 := hide (L8.out.below hb9)
      have he9 := hbe.trans (hb9.mono hbe.size)
      clear L8 hb9 a0 a1 hbe
      have a2 := L9.out.t6.cell 0
      have a3 := L9.out.t6.cell 1
      go_wp2_with fail
      refine (hop_any _ u a _ L9.out.hg hun).mono ?_
      rintro e w10 ⟨c, rfl, hP, hb10⟩
      have L10 := hide (L9.out.below hb10)
      have he10 := he9.trans (hb10.mono he9.size)
      clear L9 hb10 a2 a3 he9
      have hP1 : HpR (turnT t h n).1 a c := by rw [HTT.out]; exact hP
      have HF := hide hF
      have HP := hide hP1
      have a0 := L10.out.t3.cell 0
      have a1 := L10.out.t3.cell 1
      rcases hF.at with hb0 | ⟨m, r, hbm, hml, hr⟩
      · clear hF hP hP1
        go_wp2_with fail
        refine (hop_any _ t a _ L10.out.hx hn).mono ?_
        rintro e w11 ⟨c', rfl, hP', hb11⟩
        obtain rfl : c = c' := (turn_hop HN.out HF.out HP.out hP').2 (.inl hb0)
        have hcc : (c != c) = false := by simp
        go_wp2
        go_roundg (gk - 1)
        case measure => omega
        case rel => exact ⟨a + 1, by omega, by go_num, he10.trans (hb11.mono he10.size)⟩
      · subst hbm
        clear hF hP hP1
        obtain ⟨A', cap', hA', _, hrw⟩ := (L10.out.hx).slr1 rfl
        injection hA' with hA1 hA2 hA3
        subst hA1
        clear hA2 hA3
        obtain ⟨g, off, rfl, hb, hcell⟩ := hrw (by omega)
        obtain ⟨g1, g2, g3⟩ := routeAt hcell hr
        have hm0 : ¬ ((m : Int) < 0) := by omega
        by_cases hrh : r.hop = h
        · have hcn := turn_hop1 HN.out HF.out HP.out r (by omega) (by simpa using hr) hrh
          have hcc : (c != n) = false := by simp [hcn]
          have h1 : (r.hop == h) = true := by simp [hrh]
          have h2 : (r.hop != h) = false := by simp [hrh]
          clear hr hrh hcn
          go_wp2
          go_roundg (gk - 1)
          case measure => omega
          case rel => exact ⟨a + 1, by omega, by go_num, he10⟩
        · have HR := hide hr
          have HH := hide hrh
          have h1 : (r.hop == h) = false := by simp [hrh]
          have h2 : (r.hop != h) = true := by simp [hrh]
          clear hr hrh
          go_wp2_with fail
          refine (hop_any _ t a _ L10.out.hx hn).mono ?_
          rintro e w11 ⟨c', rfl, hP', hb11⟩
          obtain rfl : c = c' := (turn_hop HN.out HF.out HP.out hP').2 (.inr ⟨r, by simpa using HR.out, HH.out⟩)
          have hcc : (c != c) = false := by simp
          go_wp2
          go_roundg (gk - 1)
          case measure => omega
          case rel => exact ⟨a + 1, by omega, by go_num, he10.trans (hb11.mono he10.size)⟩
    · go_wp2
      go_ret
      exact ⟨rfl, L8.out.bw⟩
end Go.Proofs.Ytlkchocjldllgaa
