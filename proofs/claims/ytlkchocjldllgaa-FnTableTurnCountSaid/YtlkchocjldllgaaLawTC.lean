/- The law FnTableTurnCount, walked: it returns true for every code. Conditions: none. -/
import Derived.Test.YtlkchocjldllgaaLawT
namespace Go.Proofs.Ytlkchocjldllgaa
open Go.RowKit

theorem OwnT.far2 {w : World} {base B : Nat} {v x1 x2 : Value} {t : Tab} (h : OwnT w base v t) (hB : B < base) : OwnT ((w.setCell ⟨B, 0, none⟩ x1).setCell ⟨B, 1, none⟩ x2) base v t :=
  h.keep fun q hq => by
    have := (h.range q hq).1
    exact (Below.heap_setCell _ _ _ q (by show q ≠ B; omega)).trans (Below.heap_setCell _ _ _ q (by show q ≠ B; omega))
set_option maxRecDepth 100000 in
set_option maxHeartbeats 1600000 in
theorem lawTableTurnCount (v : Value) (bs : List Int) (w : World) (hv : SlR bc 1 w w.heap.size v bs) (hm : bs.length ≤ 9223372036854775807 ∧ ∀ n ∈ bs, 0 ≤ n ∧ n ≤ 255) :
    Calls Try.prog 9 #[v] w fun e w' => e = .returned (.bool true) ∧ Below w.heap.size w w' := by
  by_cases hl : 1048576 < bs.length
  · obtain ⟨A, cap, rfl, hc, hr⟩ := hv
    clear hr hm
    go_enter Try.func9, Try.ntmps9
    go_wp2
    go_ret
    exact ⟨rfl, Below.refl _ _⟩
  have hvv := hv
  obtain ⟨A, cap, rfl, hc, hr⟩ := hvv
  have HM := hide hm
  clear hm hr hc
  go_enter Try.func9, Try.ntmps9
  go_wp2_with fail
  refine (drawTurn_any _ bs _ hv HM.out).mono ?_
  rintro e w1 ⟨x, h, n, t, rfl, hT0, ⟨hl1, hl2⟩, hb1⟩
  have hT1 := hT0 w1 (Kept.refl _ _)
  clear hT0
  have hn : t.routes.length ≤ 1048576 ∧ t.hops.length ≤ 1048576 := by omega
  have hT1' := hT1
  obtain ⟨x1, x2, rfl, hx1, hx2⟩ := hT1'
  obtain ⟨A1, c1, rfl, hc1⟩ := hx1.form
  obtain ⟨A2, c2, rfl, hc2⟩ := hx2.form
  obtain ⟨X, hX⟩ : ∃ X, X = w1.heap.size := ⟨_, rfl⟩
  obtain ⟨w2, hw2⟩ : ∃ w2, w2 = w1.alloc (Obj.cells #[.slice A1 t.routes.length c1, .slice A2 t.hops.length c2] 30) := ⟨_, rfl⟩
  have h12 : Below w1.heap.size w1 w2 := by rw [hw2]; exact below1 _ _
  have HX2 := hide (show Blk w2 X 30 #[.slice A1 t.routes.length c1, .slice A2 t.hops.length c2] from by rw [hw2, hX]; exact Blk.new _ _ _)
  have hb2 := hb1.trans (h12.mono hb1.size)
  have hT2 := hT1.up h12
  clear hx1 hx2 hT1 hb1 h12 HM
  go_wp2_with fail
  rw [← hw2, ← hX]
  clear hw2 hX
  obtain ⟨u, k, hTT⟩ : ∃ u k, turnT t h n = (u, k) := ⟨_, _, rfl⟩
  have hul := turnT_len t h n
  rw [hTT] at hul
  have hun : u.routes.length ≤ 1048576 ∧ u.hops.length ≤ 1048576 := ⟨Nat.le_trans hul.1 hn.1, Nat.le_trans hul.2 hn.2⟩
  have HTT := hide hTT
  clear hTT hul
  refine (turn_u _ t h n u k _ HTT.out hT2 hn).mono ?_
  rintro e w3 ⟨g, rfl, hO3, hb3⟩
  have hG3 := hO3.tbr
  obtain ⟨A3, n3, k3, A4, n4, k4, rfl⟩ := hO3.lit
  obtain ⟨G, hG⟩ : ∃ G, G = w3.heap.size := ⟨_, rfl⟩
  obtain ⟨w4, hw4⟩ : ∃ w4, w4 = w3.alloc (Obj.cells #[.slice A3 n3 k3, .slice A4 n4 k4] 30) := ⟨_, rfl⟩
  have h34 : Below w3.heap.size w3 w4 := by rw [hw4]; exact below1 _ _
  have HG4 := hide (show Blk w4 G 30 #[.slice A3 n3 k3, .slice A4 n4 k4] from by rw [hw4, hG]; exact Blk.new _ _ _)
  have HX4 := hide ((HX2.out.up hb3).up h34)
  have a0 := HX4.out.cell 0
  have a1 := HX4.out.cell 1
  have hT4 := (hT2.up hb3).up h34
  have hG4 := hG3.up h34
  have hb4 := (hb2.trans (hb3.mono hb2.size)).trans (h34.mono (Nat.le_trans hb2.size hb3.size))
  clear hO3 hG3 hT2 HX2 hb2 hb3 h34
  rw [hw4] at a0 a1
  go_wp2_with fail
  clear a0 a1
  rw [← hw4, ← hG]
  clear hw4 hG
  refine (specTurn_u _ t h n u k _ HTT.out hT4 hn).mono ?_
  rintro e w5 ⟨y, rfl, hO5, hb5⟩
  have hY5 := hO5.tbr
  obtain ⟨A5, n5, k5, A6, n6, k6, rfl⟩ := hO5.lit
  obtain ⟨Y, hY⟩ : ∃ Y, Y = w5.heap.size := ⟨_, rfl⟩
  obtain ⟨w6, hw6⟩ : ∃ w6, w6 = w5.alloc (Obj.cells #[.slice A5 n5 k5, .slice A6 n6 k6] 30) := ⟨_, rfl⟩
  have h56 : Below w5.heap.size w5 w6 := by rw [hw6]; exact below1 _ _
  have L6 : Lx w w6 X G Y #[.slice A1 t.routes.length c1, .slice A2 t.hops.length c2] #[.slice A3 n3 k3, .slice A4 n4 k4] #[.slice A5 n5 k5, .slice A6 n6 k6] (.agg #[.slice A1 t.routes.length c1, .slice A2 t.hops.length c2]) (.agg #[.slice A3 n3 k3, .slice A4 n4 k4]) (.agg #[.slice A5 n5 k5, .slice A6 n6 k6]) t u :=
    ⟨(hb4.trans (hb5.mono hb4.size)).trans (h56.mono (Nat.le_trans hb4.size hb5.size)), (HX4.out.up hb5).up h56, (HG4.out.up hb5).up h56, by rw [hw6, hY]; exact Blk.new _ _ _, (hT4.up hb5).up h56, (hG4.up hb5).up h56, hY5.up h56⟩
  have L6 := hide L6
  clear hO5 hY5 hT4 hG4 HX4 HG4 hb4 hb5 h56
  have hne : (k != k) = false := by simp
  have heq : (k == k) = true := by simp
  have a2 := L6.out.t6.cell 0
  have a3 := L6.out.t6.cell 1
  have a4 := L6.out.t8.cell 0
  have a5 := L6.out.t8.cell 1
  rw [hw6] at a2 a3 a4 a5
  rw [hY] at a4 a5
  go_wp2_with fail
  clear a2 a3 a4 a5
  rw [← hw6, ← hY]
  clear hw6 hY
  refine (sameT_any _ _ u u _ L6.out.hg L6.out.hy hun hun).mono ?_
  rintro e w7 ⟨rfl, hb7⟩
  rw [eqB_self]
  have L7 := hide (L6.out.below hb7)
  clear L6 hb7
  have a2 := L7.out.t6.cell 0
  have a3 := L7.out.t6.cell 1
  have a4 := L7.out.t8.cell 0
  have a5 := L7.out.t8.cell 1
  by_cases hk : k < 0
  · go_wp2_with fail
    refine (sameT_any _ _ u u _ L7.out.hg L7.out.hy hun hun).mono ?_
    rintro e w8 ⟨rfl, hb8⟩
    rw [eqB_self]
    go_wp2
    go_ret
    exact ⟨rfl, L7.out.bw.trans (hb8.mono L7.out.bw.size)⟩
  have HN := hide (turn_ok HTT.out hk)
  clear a2 a3 a4 a5
  obtain ⟨wb, hwb⟩ : ∃ wb, wb = w7 := ⟨_, rfl⟩
  subst hwb
  obtain ⟨j, rfl⟩ := Int.eq_ofNat_of_zero_le HN.out.2.1.1
  have hjl : j < t.hops.length := by have := HN.out.2.1.2; omega
  obtain ⟨m, hjm⟩ := get_some hjl
  have hkc : k = (cntH t.routes j : Int) := by
    have h1 := HTT.out
    rw [turnT_yes HN.out] at h1
    exact (congrArg Prod.snd h1).symm
  have HB : Hid (turnT u j m = (t, k)) := hide (by
    have h1 := turn_back HN.out (show t.hops[(j : Int).toNat]? = some m from hjm)
    rw [HTT.out] at h1
    rw [h1, hkc])
  have HU : Hid (TV u) := hide (by have h1 := turnT_tv HN.out; rw [HTT.out] at h1; exact h1)
  have HKC := hide hkc
  clear hkc
  go_wp2
  go_loopg [10, 11] (t.routes.length) (fun g cv iv wr => ∃ (i : Nat) (c : Int), i + g = t.routes.length ∧ iv = .int .i64 i ∧ cv = .int .i64 c ∧ 0 ≤ c ∧ c ≤ i ∧ Hid (c = cntH (t.routes.take i) j) ∧ Below wb.heap.size wb wr)
  case atStart => exact ⟨0, 0, by omega, rfl, rfl, by omega, by omega, hide (by simp [cntH]), Below.refl _ _⟩
  case round =>
    obtain ⟨i, c, hi, rfl, rfl, hc0, hc9, HCN, hbe⟩ := hrel
    have L8 := hide (L7.out.below hbe)
    have a0 := L8.out.t3.cell 0
    have a1 := L8.out.t3.cell 1
    obtain ⟨A', cap', hA', _, hrw⟩ := (L8.out.hx).slr1 rfl
    injection hA' with hA1 hA2 hA3
    subst hA1
    clear hA2 hA3
    by_cases hlt : i < t.routes.length
    · obtain ⟨b, off, rfl, hb, hcell⟩ := hrw (by omega)
      obtain ⟨r, hck⟩ := get_some hlt
      obtain ⟨g1, g2, g3⟩ := routeAt hcell hck
      have htk : t.routes.take (i + 1) = t.routes.take i ++ [r] := by rw [List.take_add_one, hck]; rfl
      have hcn := cntH_snoc (t.routes.take i) r j
      rw [← htk] at hcn
      have HCN' := hide hcn
      clear htk hcn hck
      by_cases hrh : r.hop = (j : Int)
      · have e1 : (r.hop == (j : Int)) = true := by simp [hrh]
        have HN : Hid (c + 1 = cntH (t.routes.take (i + 1)) j) := hide (by have := HCN'.out; rw [if_pos hrh] at this; have := HCN.out; omega)
        clear hrh
        go_wp2
        go_roundg (gk - 1)
        case measure => omega
        case rel => exact ⟨i + 1, c + 1, by omega, by go_num, by go_num, by omega, by omega, HN, hbe⟩
      · have e1 : (r.hop == (j : Int)) = false := by simp [hrh]
        have HN : Hid (c = cntH (t.routes.take (i + 1)) j) := hide (by have := HCN'.out; rw [if_neg hrh] at this; have := HCN.out; omega)
        clear hrh
        go_wp2
        go_roundg (gk - 1)
        case measure => omega
        case rel => exact ⟨i + 1, c, by omega, by go_num, by go_num, by omega, by omega, HN, hbe⟩
    · have hcc : c = k := by rw [HKC.out]; have := HCN.out; rw [List.take_of_length_le (by omega)] at this; exact this
      subst hcc
      clear HCN hrw
      obtain ⟨_, x2', hq, _, hs2⟩ := L8.out.hx
      cases hq
      obtain ⟨A'', cap'', hA'', _, hr2⟩ := hs2
      injection hA'' with hA4 hA5 hA6
      subst hA4
      clear hA5 hA6
      obtain ⟨g', off', rfl, hb', hcell'⟩ := hr2 (by omega)
      have g4 := intAt hcell' hjm
      have a2 := L8.out.t6.cell 0
      have a3 := L8.out.t6.cell 1
      go_upto_region 14 with fail
      have hgw : g' < wr.heap.size := World.block_lt_of_cell? wr _ g4
      have hXw := L8.out.t3.lt
      have hGw := L8.out.t6.lt
      have n1 : G ≠ wr.heap.size := by omega
      have n2 : X ≠ wr.heap.size := by omega
      have n3' : g' ≠ wr.heap.size := by omega
      have m1 : wr.heap.size ≠ G := by omega
      have m2 : wr.heap.size ≠ X := by omega
      have m3 : wr.heap.size ≠ g' := by omega
      obtain ⟨wz, hwz⟩ : ∃ wz, wz = wr.alloc (Obj.cells #[.slice none 0 0, .slice none 0 0] 30) := ⟨_, rfl⟩
      have LZ := L8.out.below (show Below wr.heap.size wr wz from by rw [hwz]; exact below1 _ _)
      have HZ : Blk wz wr.heap.size 30 #[.slice none 0 0, .slice none 0 0] := by rw [hwz]; exact Blk.new _ _ _
      have gz : wz.cell? ⟨g', off' + j, none⟩ = some (.int .i64 m) := ((show Below wr.heap.size wr wz from by rw [hwz]; exact below1 _ _).cell (World.block_lt_of_cell? wr _ g4)).trans g4
      have b1 := LZ.t3.cell 1
      have b2 := LZ.t6.cell 0
      have b3 := LZ.t6.cell 1
      have LD := LZ.below ((Below.refl wz.heap.size wz).drew)
      rw [hwz] at LD
      have LE := L8.out.below ((Below.refl wr.heap.size wr).drew)
      go_region_held3 (fun W => W.cell? ⟨G, 0, none⟩ = some (.slice A3 n3 k3) ∧ W.cell? ⟨G, 1, none⟩ = some (.slice A4 n4 k4) ∧ W.cell? ⟨X, 1, none⟩ = some (.slice (some ⟨g', off', none⟩) t.hops.length c2) ∧ W.cell? ⟨g', off' + j, none⟩ = some (.int .i64 m)) (first | go_keep | exact ⟨q0, q1, q2, q3⟩ | fail)
        (first
          | (go_at_call 35; refine (turn_u _ u j m t c _ HB.out LD.hg hun).mono ?_; rintro e w9 ⟨z, rfl, hO9, hb9⟩
             obtain ⟨A7, n7, k7, A8, n8, k8, rfl⟩ := hO9.lit
             rw [← hwz] at hb9
             have q0 := (hb9.cell (World.block_lt_of_cell? wz.drew _ b2)).trans b2
             have q1 := (hb9.cell (World.block_lt_of_cell? wz.drew _ b3)).trans b3
             have q2 := (hb9.cell (World.block_lt_of_cell? wz.drew _ b1)).trans b1
             have q3 := (hb9.cell (World.block_lt_of_cell? wz.drew _ gz)).trans gz
             have HZ9 := (show Blk wz.drew wr.heap.size 30 #[.slice none 0 0, .slice none 0 0] from HZ).up hb9
             have z0 := HZ9.cell 0
             have z1 := HZ9.cell 1
             have y0 := HZ9.free 0
             have y1 := HZ9.free 1)
          | (go_at_call 35; refine (turn_u _ u j m t c _ HB.out LE.hg hun).mono ?_; rintro e w9 ⟨z, rfl, hO9, hb9⟩
             obtain ⟨A7, n7, k7, A8, n8, k8, rfl⟩ := hO9.lit
             have q0 := (hb9.cell (World.block_lt_of_cell? wr.drew _ a2)).trans a2
             have q1 := (hb9.cell (World.block_lt_of_cell? wr.drew _ a3)).trans a3
             have q2 := (hb9.cell (World.block_lt_of_cell? wr.drew _ a1)).trans a1
             have q3 := (hb9.cell (World.block_lt_of_cell? wr.drew _ g4)).trans g4)
          | fail)
      · obtain ⟨Z, hZ⟩ : ∃ Z, Z = w9.heap.size := ⟨_, rfl⟩
        obtain ⟨wf, hwf⟩ : ∃ wf, wf = w9.alloc (Obj.cells #[.slice A7 n7 k7, .slice A8 n8 k8] 30) := ⟨_, rfl⟩
        have hbf : Below w9.heap.size w9 wf := by rw [hwf]; exact below1 _ _
        have TZ := hO9.tbr.up hbf
        have LF := hide ((LE.below hb9).below hbf)
        have HZf := hide (show Blk wf Z 30 #[.slice A7 n7 k7, .slice A8 n8 k8] from by rw [hwf, hZ]; exact Blk.new _ _ _)
        rw [← hwf, ← hZ]
        clear hO9 hb9 hbf hwf hZ q0 q1 q2 q3 a0 a1 a2 a3 g4 gz b1 b2 b3 LZ LD LE HZ
        have a6 := HZf.out.cell 0
        have a7 := HZf.out.cell 1
        have a0 := LF.out.t3.cell 0
        have a1 := LF.out.t3.cell 1
        have a2 := LF.out.t6.cell 0
        have a3 := LF.out.t6.cell 1
        have hgg := LF.out.bw.size
        go_wp2_with fail
        refine (sameT_any _ _ t t _ TZ LF.out.hx hn hn).mono ?_
        rintro e wA ⟨rfl, hbA⟩
        rw [eqB_self]
        have LA := hide (LF.out.below hbA)
        clear a0 a1 a2 a3 a6 a7 hgg
        have a2 := LA.out.t6.cell 0
        have a3 := LA.out.t6.cell 1
        go_wp2_with fail
        refine (tableValid_any _ u _ LA.out.hg hun).mono ?_
        rintro e wB ⟨rfl, hbB⟩
        rw [tb_yes HU.out]
        go_wp2
        go_ret
        exact ⟨rfl, LA.out.bw.trans (hbB.mono LA.out.bw.size)⟩
      · obtain ⟨Z, hZ⟩ : ∃ Z, Z = wr.heap.size := ⟨_, rfl⟩
        obtain ⟨wf, hwf⟩ : ∃ wf, wf = (w9.setCell ⟨wr.heap.size, 0, none⟩ (.slice A7 n7 k7)).setCell ⟨wr.heap.size, 1, none⟩ (.slice A8 n8 k8) := ⟨_, rfl⟩
        have hZz : wr.heap.size < wz.heap.size := by rw [hwz]; simp
        have hb1 : Below wr.heap.size wr wz := by rw [hwz]; exact below1 _ _
        have hb2 : Below wr.heap.size wr wz.drew := hb1.drew
        have hbf : Below wr.heap.size wr wf := by rw [hwf]; exact ((hb2.trans (hb9.mono hb2.size)).setCell (Nat.le_refl _) _).setCell (Nat.le_refl _) _
        rw [← hwz] at hO9
        have TZ : TbR wf wf.heap.size (.agg #[.slice A7 n7 k7, .slice A8 n8 k8]) t := by rw [hwf]; exact (hO9.far2 hZz).tbr
        have LF := hide (L8.out.below hbf)
        have HZf := hide (show Blk wf Z 30 #[.slice A7 n7 k7, .slice A8 n8 k8] from by rw [hwf, hZ]; exact (HZ9.put 0 _).put 1 _)
        rw [← hwf, ← hZ]
        clear hO9 hb9 hbf hwf hZ q0 q1 q2 q3 a0 a1 a2 a3 g4 gz b1 b2 b3 LZ LD LE HZ
        have a6 := HZf.out.cell 0
        have a7 := HZf.out.cell 1
        have a0 := LF.out.t3.cell 0
        have a1 := LF.out.t3.cell 1
        have a2 := LF.out.t6.cell 0
        have a3 := LF.out.t6.cell 1
        have hgg := LF.out.bw.size
        go_wp2_with fail
        refine (sameT_any _ _ t t _ TZ LF.out.hx hn hn).mono ?_
        rintro e wA ⟨rfl, hbA⟩
        rw [eqB_self]
        have LA := hide (LF.out.below hbA)
        clear a0 a1 a2 a3 a6 a7 hgg
        have a2 := LA.out.t6.cell 0
        have a3 := LA.out.t6.cell 1
        go_wp2_with fail
        refine (tableValid_any _ u _ LA.out.hg hun).mono ?_
        rintro e wB ⟨rfl, hbB⟩
        rw [tb_yes HU.out]
        go_wp2
        go_ret
        exact ⟨rfl, LA.out.bw.trans (hbB.mono LA.out.bw.size)⟩
end Go.Proofs.Ytlkchocjldllgaa
