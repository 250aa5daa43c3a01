/- The program's TableRemove: remT. Conditions: at most 1048576 routes and hops. -/
import Derived.Test.YtlkchocjldllgaaBin
import Derived.Test.YtlkchocjldllgaaDel
import Derived.Test.YtlkchocjldllgaaDrawT
namespace Go.Proofs.Ytlkchocjldllgaa
open Go.RowKit

theorem posR_stop : ∀ {l : List Rt} {r q : Rt}, l[posR l r]? = some q → ¬ Rl q r
  | [], r, q, h => by simp at h
  | x :: l, r, q, h => by
    unfold posR at h
    split at h
    · exact posR_stop (by simpa using h)
    · rename_i hx
      simp at h
      subst h
      exact hx
theorem posR_before : ∀ {l : List Rt} {r x : Rt} {i : Nat}, i < posR l r → l[i]? = some x → Rl x r
  | [], r, x, i, h, _ => by simp [posR] at h
  | y :: l, r, x, i, h, hx => by
    unfold posR at h
    split at h
    · rename_i hy
      cases i with
      | zero => simp at hx; subst hx; exact hy
      | succ i => exact posR_before (l := l) (i := i) (by omega) (by simpa using hx)
    · omega
theorem kn_yes {l : List Rt} {r : Rt} (h : Kn l r) : ∃ q, l[posR l r]? = some q ∧ Ky q r := by
  obtain ⟨q, h1, h2⟩ := h
  exact ⟨q, h1, Rl.ky (posR_stop h1) h2⟩
theorem kn_no {l : List Rt} {r : Rt} (hp : l.Pairwise Rl) (h : ¬ Kn l r) : (∀ q, l[posR l r]? = some q → Rl r q) ∧ ∀ y ∈ l, ¬ Ky y r := by
  have h1 : ∀ q, l[posR l r]? = some q → Rl r q := fun q hq => Classical.byContradiction fun hn => h ⟨q, hq, hn⟩
  refine ⟨h1, fun y hy hk => ?_⟩
  obtain ⟨i, hi⟩ := List.mem_iff_getElem?.1 hy
  rcases Nat.lt_or_ge i (posR l r) with h2 | h2
  · exact hk.nl (posR_before h2 hi)
  · have h3 := get_lt hi
    obtain ⟨q, hq⟩ := get_some (l := l) (i := posR l r) (by omega)
    have h4 := h1 q hq
    rcases Nat.lt_or_eq_of_le h2 with h5 | h5
    · have h6 := get_lt hq
      rw [List.getElem?_eq_getElem h3] at hi
      rw [List.getElem?_eq_getElem h6] at hq
      cases hi; cases hq
      have := (List.pairwise_iff_getElem.1 hp) _ _ h6 h3 h5
      exact hk.symm.nl (h4.trans this)
    · rw [h5] at hq
      rw [hi] at hq
      cases hq
      exact hk.symm.nl h4
theorem remT_known {t : Tab} {p b : Int} (hV : TV t) (h : Kn t.routes ⟨p, b, 0⟩) : remT t p b = (⟨t.routes.take (posR t.routes ⟨p, b, 0⟩) ++ t.routes.drop (posR t.routes ⟨p, b, 0⟩ + 1), t.hops⟩, true) := by
  obtain ⟨q, h1, h2⟩ := kn_yes h
  have h3 := remL_at hV.vl.pw h1 h2.1 h2.2
  have h4 := remL_found hV.vl.pw h1 h2.1 h2.2
  rw [remT_yes hV, h3]
  rw [h3] at h4
  congr 1
  exact decide_eq_true (by omega)
theorem remT_unknown {t : Tab} {p b : Int} (hV : TV t) (h : ¬ Kn t.routes ⟨p, b, 0⟩) : remT t p b = (t, false) := by
  rw [remT_yes hV, remL_none fun y hy hk => (kn_no hV.vl.pw h).2 y hy hk]
  congr 1
  exact decide_eq_false (by omega)
set_option maxRecDepth 100000 in
set_option maxHeartbeats 1600000 in
theorem remove_any (v : Value) (t : Tab) (p b : Int) (w : World) (hv : TbR w w.heap.size v t) (hn : t.routes.length ≤ 1048576 ∧ t.hops.length ≤ 1048576) :
    Calls Try.prog 41 #[v, .int .i64 p, .int .i64 b] w fun e w' => ∃ v', e = .returned (.tuple #[v', .bool (remT t p b).2]) ∧ OwnT w' w.heap.size v' (remT t p b).1 ∧ Below w.heap.size w w' := by
  have hvv := hv
  obtain ⟨v1, v2, rfl, hs1, hs2⟩ := hv
  obtain ⟨A1, cap1, rfl, hc1, hr1⟩ := hs1
  obtain ⟨A2, cap2, rfl, _, _⟩ := hs2
  have hn1 := hn.1
  have hn2 := hn.2
  obtain ⟨nl, hnl⟩ : ∃ nl, nl = Value.slice none 0 0 := ⟨_, rfl⟩
  obtain ⟨wb, hwb⟩ : ∃ wb, wb = (w.alloc (Obj.cells #[.slice A1 t.routes.length cap1, .slice A2 t.hops.length cap2] 30)).alloc (Obj.cells #[nl, nl] 30) := ⟨_, rfl⟩
  have hbw : Below w.heap.size w wb := by rw [hwb]; exact below2 _ _ _
  have BT : Blk wb w.heap.size 30 #[.slice A1 t.routes.length cap1, .slice A2 t.hops.length cap2] := by rw [hwb]; exact (Blk.new _ _ _).alloc _
  have BO : Blk wb (w.heap.size + 1) 30 #[nl, nl] := by
    have h := Blk.new (w.alloc (Obj.cells #[.slice A1 t.routes.length cap1, .slice A2 t.hops.length cap2] 30)) 30 #[nl, nl]
    rw [hwb]; simpa using h
  rw [hnl] at hwb
  go_enter Try.func41, Try.ntmps41
  go_wp2_with fail
  rw [← hwb]
  clear hwb
  refine (tableValid_any _ t _ (hvv.up hbw) hn).mono ?_
  rintro e w1 ⟨rfl, hb1⟩
  have HT1 := hide (BT.up hb1)
  have HO1 := hide (BO.up hb1)
  have hb01 := hbw.trans (hb1.mono hbw.size)
  have ltO := (BO.up hb1).lt
  clear BT BO hb1 hbw
  by_cases hV : TV t
  · rw [tb_yes hV]
    have HV := hide hV
    clear hV
    have t0 := HT1.out.cell 0
    have t1 := HT1.out.cell 1
    go_wp2_with fail
    refine (copyTable_any _ t _ (hvv.up hb01) hn).mono ?_
    rintro e w3 ⟨c, rfl, hO3, hb3⟩
    obtain ⟨x1, x2, rfl, hx1, hx2, hsep⟩ := hO3
    obtain ⟨B1, cp1, rfl, _, _⟩ := hx1.lit
    obtain ⟨B2, cp2, rfl, _, _⟩ := hx2.lit
    have hb03 := hb01.trans (hb3.mono hb01.size)
    obtain ⟨wc, hwc⟩ : ∃ wc, wc = w3.alloc (Obj.cells #[.slice B1 t.routes.length cp1, .slice B2 t.hops.length cp2] 30) := ⟨_, rfl⟩
    have h3c : Below w3.heap.size w3 wc := by rw [hwc]; exact below1 _ _
    obtain ⟨C, hC⟩ : ∃ C, C = w3.heap.size := ⟨_, rfl⟩
    have hBC : Blk wc C 30 #[.slice B1 t.routes.length cp1, .slice B2 t.hops.length cp2] := by rw [hwc, hC]; exact Blk.new _ _ _
    have h0c := hb03.trans (h3c.mono hb03.size)
    have hX1 := hx1.below h3c
    have hX2 := hx2.below h3c
    have hOc := (HO1.out.up hb3).up h3c
    have hVL : t.routes.length ≤ 10 := HV.out.len.2
    have hlo : ∀ q, (Value.slice B1 t.routes.length cp1).ownBlock = some q → w1.heap.size ≤ q ∧ q < C := fun q hq => by rw [hC]; exact World.ownsRow.lt hx1 q hq
    have hlo2 : ∀ q, (Value.slice B2 t.hops.length cp2).ownBlock = some q → w1.heap.size ≤ q ∧ q < C := fun q hq => by rw [hC]; exact World.ownsRow.lt hx2 q hq
    have hC1 : w1.heap.size ≤ C := by rw [hC]; exact hb3.size
    have HOc := hide hOc
    have HBC := hide hBC
    have HX1 := hide hX1
    have HX2 := hide hX2
    have HLO := hide (And.intro hlo (And.intro hlo2 hsep))
    clear hb3 hb03 hx1 hx2 hX1 hX2 hOc hBC t0 t1 HT1 HO1 h3c hsep hlo hlo2
    go_upto_region 4 with fail
    rw [← hwc, ← hC]
    clear hwc hC
    have c0 := HBC.out.cell 0
    go_wp2_with fail
    refine (bin_any _ t.routes ⟨p, b, 0⟩ _ (HX1.out.slr rc_len) hn1 HV.out.vl.pw).mono ?_
    rintro e w4 ⟨rfl, hb4⟩
    have HB4 := hide (HBC.out.up hb4)
    have HO4 := hide (HOc.out.up hb4)
    have HY1 := hide (HX1.out.below hb4)
    have HY2 := hide (HX2.out.below hb4)
    have hb04 := h0c.trans (hb4.mono h0c.size)
    clear c0 HBC HOc HX1 HX2 hb4 h0c
    by_cases hk : Kn t.routes ⟨p, b, 0⟩
    · rw [tb_yes hk]
      have HREM := hide (remT_known HV.out hk)
      obtain ⟨q, hq, _⟩ := kn_yes hk
      have hkl := get_lt hq
      obtain ⟨k, hkk⟩ : ∃ k, k = posR t.routes ⟨p, b, 0⟩ := ⟨_, rfl⟩
      rw [← hkk] at hkl HREM
      rw [← hkk]
      clear hk hq hkk
      obtain ⟨g, cg, hx, hg1, hg2⟩ := HY1.out.form (by omega)
      have hA : B1 = some ⟨g, 0, none⟩ := by injection hx
      subst hA
      clear hx
      have hgC := HLO.out.1 g rfl
      have c0 := HB4.out.cell 0
      have z0 := HB4.out.free 0
      go_wp2_with fail
      refine (del_any g t.routes.length cp1 t.routes k w1.heap.size w4 HY1.out hkl hn1).mono ?_
      rintro e w5 ⟨rfl, hO5, hg5⟩
      have hB5 := HB4.out.grown hg5 (by intro h; injection h; omega)
      have hR5 := HO4.out.grown hg5 (by intro h; injection h; omega)
      have hY5 := own_grown HY2.out hg5 (fun q hq h => by injection h with h; subst h; exact HLO.out.2.2 _ rfl hq)
      have hb05 : Below w.heap.size w w5 := hb04.grown hg5 hb04.size (fun q hq => by injection hq; omega)
      have c0 := hB5.cell 0
      have c1 := hB5.cell 1
      have z0 := hB5.free 0
      have o0 := hR5.cell 0
      have o1 := hR5.cell 1
      have y0 := hR5.free 0
      have y1 := hR5.free 1
      have hO6 := own_far hO5 (p := ⟨C, 0, none⟩) (fun q hq => by injection hq with hq; have h9 := hgC.2; show q ≠ C; subst hq; exact Nat.ne_of_lt h9) (.slice (some ⟨g, 0, none⟩) (t.routes.length - 1) cp1)
      have hY6 := own_far hY5 (p := ⟨C, 0, none⟩) (fun q hq => by have := HLO.out.2.1 q hq; show q ≠ C; omega) (.slice (some ⟨g, 0, none⟩) (t.routes.length - 1) cp1)
      have hb06 := hb05.setCell (p := ⟨C, 0, none⟩) (by show w.heap.size ≤ C; omega) (.slice (some ⟨g, 0, none⟩) (t.routes.length - 1) cp1)
      have HE := hide (And.intro hO6 (And.intro hY6 hb06))
      clear hO5 hO6 hY5 hY6 hb05 hb06 hg5 HB4 HO4 HY1 HY2 hb04 hB5 hR5
      go_wp2_with fail
      refine bodyPost_ret (v := .tuple #[.agg #[.slice (some ⟨g, 0, none⟩) (t.routes.length - 1) cp1, .slice B2 t.hops.length cp2], .bool true]) (by simp [results, Try.results41, go_sem, o0, o1]) rfl ⟨_, by rw [HREM.out], by rw [HREM.out]; exact ownT_far HE.out.1 HE.out.2.1 HLO.out.2.2 (by omega) (by omega), (HE.out.2.2.setCell (by simp) _).setCell (by simp) _⟩
    · rw [tb_no hk]
      have HREM := hide (remT_unknown HV.out hk)
      clear hk
      have c0 := HB4.out.cell 0
      have c1 := HB4.out.cell 1
      have o0 := HO4.out.cell 0
      have o1 := HO4.out.cell 1
      have y0 := HO4.out.free 0
      have y1 := HO4.out.free 1
      go_wp2_with fail
      refine bodyPost_ret (v := .tuple #[.agg #[.slice B1 t.routes.length cp1, .slice B2 t.hops.length cp2], .bool false]) (by simp [results, Try.results41, go_sem, o0, o1]) rfl ⟨_, by rw [HREM.out], by rw [HREM.out]; exact ownT_far HY1.out HY2.out HLO.out.2.2 (by omega) (by omega), (hb04.setCell (by simp) _).setCell (by simp) _⟩
  · rw [tb_no hV]
    have HNO : Hid (remT t p b = (⟨[], []⟩, false)) := hide (remT_no hV)
    clear hV
    have o0 := HO1.out.cell 0
    have o1 := HO1.out.cell 1
    have z0 := HO1.out.free 0
    have z1 := HO1.out.free 1
    go_wp2_with fail
    refine bodyPost_ret (v := .tuple #[.agg #[.slice none 0 0, .slice none 0 0], .bool false]) (by simp [results, Try.results41, go_sem, o0, o1]) rfl ⟨_, by rw [HNO.out], by rw [HNO.out]; exact ownT_nil _ _, ?_⟩
    exact (hb01.setCell (by simp) _).setCell (by simp) _
end Go.Proofs.Ytlkchocjldllgaa
