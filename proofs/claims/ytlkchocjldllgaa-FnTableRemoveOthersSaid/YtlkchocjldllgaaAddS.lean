/- TableAdd of the reference. Conditions: at most 1048576 routes and hops. -/
import Derived.Test.YtlkchocjldllgaaCopyS
import Derived.Test.YtlkchocjldllgaaTabS
import Derived.Test.YtlkchocjldllgaaTabP
namespace Go.Proofs.Ytlkchocjldllgaa
open Go.RowKit

theorem ownT_nil (w : World) (base : Nat) : OwnT w base (.agg #[.slice none 0 0, .slice none 0 0]) ⟨[], []⟩ :=
  ⟨_, _, rfl, Own.nil _ _ _ _ _, Own.nil _ _ _ _ _, fun q h => by simp [Value.ownBlock] at h⟩
theorem own_set3 {w : World} {base g n cap k : Nat} {e : TypeId} {l : List Rt} {x r : Rt} (h : Own rc e 3 w base (.slice (some ⟨g, 0, none⟩) n cap) l) (hn : n = l.length) (hk : l[k]? = some x) :
    Own rc e 3 (((w.setCell ⟨g, k * 3, none⟩ (.int .i64 r.pre)).setCell ⟨g, k * 3 + 1, none⟩ (.int .i64 r.bits)).setCell ⟨g, k * 3 + 2, none⟩ (.int .i64 r.hop)) base (.slice (some ⟨g, 0, none⟩) n cap) (l.set k r) := by
  have hkl := get_lt hk
  have s1 := h.set rc_len (k := k) (j := 0) (x := x) (y := ⟨r.pre, x.bits, x.hop⟩) (u := .int .i64 r.pre) hn hk (by decide) rfl
  have s2 := s1.set rc_len (k := k) (j := 1) (x := ⟨r.pre, x.bits, x.hop⟩) (y := ⟨r.pre, r.bits, x.hop⟩) (u := .int .i64 r.bits) (by rw [List.length_set]; exact hn) (by rw [List.getElem?_set_self hkl]) (by decide) rfl
  have s3 := s2.set rc_len (k := k) (j := 2) (x := ⟨r.pre, r.bits, x.hop⟩) (y := r) (u := .int .i64 r.hop) (by rw [List.length_set, List.length_set]; exact hn) (by rw [List.getElem?_set_self (by rw [List.length_set]; exact hkl)]) (by decide) rfl
  rw [List.set_set, List.set_set] at s3
  exact s3
theorem nth_set {l : List Rt} {k : Nat} {q r : Rt} (h : l[posR l r]? = some q) (h' : ¬ Rl r q) (hk : posR l r = k) : insL l r = l.set k r := by rw [← hk]; exact insL_same h h'

theorem TbR.slr1 {w : World} {B : Nat} {v v1 v2 : Value} {t : Tab} (h : TbR w B v t) (hv : v = .agg #[v1, v2]) : SlR rc 3 w B v1 t.routes := by
  obtain ⟨x1, x2, rfl, h1, _⟩ := h
  cases hv
  exact h1
theorem ownT_far {w : World} {base base' B : Nat} {v1 v2 x1 x2 : Value} {rs : List Rt} {hs : List Int} {i j : Nat} (h1 : Own rc 40 3 w base v1 rs) (h2 : Own ic 3 1 w base v2 hs) (h3 : ∀ q, v1.ownBlock = some q → v2.ownBlock ≠ some q) (hB : B < base) (hb : base' ≤ base) :
    OwnT ((w.setCell ⟨B, i, none⟩ x1).setCell ⟨B, j, none⟩ x2) base' (.agg #[v1, v2]) ⟨rs, hs⟩ := by
  have l1 := World.ownsRow.lt h1
  have l2 := World.ownsRow.lt h2
  exact ownT_mk (Own.low (own_far (own_far h1 (fun q hq => by have := (l1 q hq).1; show q ≠ B; omega) _) (fun q hq => by have := (l1 q hq).1; show q ≠ B; omega) _) hb)
    (Own.low (own_far (own_far h2 (fun q hq => by have := (l2 q hq).1; show q ≠ B; omega) _) (fun q hq => by have := (l2 q hq).1; show q ≠ B; omega) _) hb) h3
set_option maxRecDepth 100000 in
set_option maxHeartbeats 1600000 in
theorem specAdd_any (v : Value) (t : Tab) (r : Rt) (w : World) (hv : TbR w w.heap.size v t) (hn : t.routes.length ≤ 1048576 ∧ t.hops.length ≤ 1048576) :
    Calls Try.prog 45 #[v, .agg #[.int .i64 r.pre, .int .i64 r.bits, .int .i64 r.hop]] w fun e w' => ∃ v', e = .returned (.tuple #[v', .bool (addT t r).2]) ∧ OwnT w' w.heap.size v' (addT t r).1 ∧ Below w.heap.size w w' := by
  have hvv := hv
  obtain ⟨v1, v2, rfl, hs1, hs2⟩ := hv
  obtain ⟨A1, cap1, rfl, hc1, hr1⟩ := hs1
  obtain ⟨A2, cap2, rfl, _, _⟩ := hs2
  have hn1 := hn.1
  have hn2 := hn.2
  obtain ⟨nl, hnl⟩ : ∃ nl, nl = Value.slice none 0 0 := ⟨_, rfl⟩
  obtain ⟨wb, hwb⟩ : ∃ wb, wb = ((w.alloc (Obj.cells #[.slice A1 t.routes.length cap1, .slice A2 t.hops.length cap2] 30)).alloc (Obj.cells #[.int .i64 r.pre, .int .i64 r.bits, .int .i64 r.hop] 40)).alloc (Obj.cells #[nl, nl] 30) := ⟨_, rfl⟩
  have hbw : Below w.heap.size w wb := by rw [hwb]; exact below3 _ _ _ _
  have BT : Blk wb w.heap.size 30 #[.slice A1 t.routes.length cap1, .slice A2 t.hops.length cap2] := by rw [hwb]; exact ((Blk.new _ _ _).alloc _).alloc _
  have BR : Blk wb (w.heap.size + 1) 40 #[.int .i64 r.pre, .int .i64 r.bits, .int .i64 r.hop] := by
    have h := (Blk.new (w.alloc (Obj.cells #[.slice A1 t.routes.length cap1, .slice A2 t.hops.length cap2] 30)) 40 #[.int .i64 r.pre, .int .i64 r.bits, .int .i64 r.hop]).alloc (Obj.cells #[nl, nl] 30)
    rw [hwb]; simpa using h
  have BO : Blk wb (w.heap.size + 1 + 1) 30 #[nl, nl] := by
    have h := Blk.new ((w.alloc (Obj.cells #[.slice A1 t.routes.length cap1, .slice A2 t.hops.length cap2] 30)).alloc (Obj.cells #[.int .i64 r.pre, .int .i64 r.bits, .int .i64 r.hop] 40)) 30 #[nl, nl]
    rw [hwb]; simpa using h
  rw [hnl] at hwb
  go_enter Try.func45, Try.ntmps45
  go_wp2_with fail
  rw [← hwb]
  clear hwb
  refine (specTableValid_any _ t _ (hvv.up hbw) hn).mono ?_
  rintro e w1 ⟨rfl, hb1⟩
  have HT1 := hide (BT.up hb1)
  have HR1 := hide (BR.up hb1)
  have HO1 := hide (BO.up hb1)
  have hb01 := hbw.trans (hb1.mono hbw.size)
  have ltO := (BO.up hb1).lt
  clear BT BR BO hb1 hbw
  by_cases hV : TV t
  · rw [tb_yes hV]
    have HV := hide hV
    clear hV
    have t0 := HT1.out.cell 0
    have t1 := HT1.out.cell 1
    have r0 := HR1.out.cell 0
    have r1 := HR1.out.cell 1
    have r2 := HR1.out.cell 2
    go_wp2_with fail
    refine (l23Route_any r t.hops.length _ (by omega)).mono ?_
    rintro e w2 ⟨rfl, hb2⟩
    have HT2 := hide (HT1.out.up hb2)
    have HR2 := hide (HR1.out.up hb2)
    have HO2 := hide (HO1.out.up hb2)
    have hb02 := hb01.trans (hb2.mono hb01.size)
    have ltO2 := HO2.out.lt
    clear HT1 HR1 HO1 hb2 hb01 t0 t1 r0 r1 r2 ltO
    by_cases hR : RV r t.hops.length
    · rw [tb_yes hR]
      have HR := hide hR
      clear hR
      have t0 := HT2.out.cell 0
      have t1 := HT2.out.cell 1
      go_wp2_with fail
      refine (l23Copy_any _ t _ (hvv.up hb02) hn).mono ?_
      rintro e w3 ⟨c, rfl, hO3, hb3⟩
      obtain ⟨x1, x2, rfl, hx1, hx2, hsep⟩ := hO3
      obtain ⟨B1, cp1, rfl, _, _⟩ := hx1.lit
      obtain ⟨B2, cp2, rfl, _, _⟩ := hx2.lit
      have hb03 := hb02.trans (hb3.mono hb02.size)
      clear t0 t1
      obtain ⟨wc, hwc⟩ : ∃ wc, wc = w3.alloc (Obj.cells #[.slice B1 t.routes.length cp1, .slice B2 t.hops.length cp2] 30) := ⟨_, rfl⟩
      have h3c : Below w3.heap.size w3 wc := by rw [hwc]; exact below1 _ _
      obtain ⟨C, hC⟩ : ∃ C, C = w3.heap.size := ⟨_, rfl⟩
      have BC : Blk wc C 30 #[.slice B1 t.routes.length cp1, .slice B2 t.hops.length cp2] := by rw [hwc, hC]; exact Blk.new _ _ _
      have h0c := hb03.trans (h3c.mono hb03.size)
      have hX1 := hide (hx1.below h3c)
      have hX2 := hide (hx2.below h3c)
      have hTc := hide ((HT2.out.up hb3).up h3c)
      have hRc := hide ((HR2.out.up hb3).up h3c)
      have hOc := hide ((HO2.out.up hb3).up h3c)
      have hBC := hide BC
      have hlo1 : ∀ q, (Value.slice B1 t.routes.length cp1).ownBlock = some q → w2.heap.size ≤ q ∧ q < C := fun q hq => by rw [hC]; exact World.ownsRow.lt hx1 q hq
      have hlo2 : ∀ q, (Value.slice B2 t.hops.length cp2).ownBlock = some q → w2.heap.size ≤ q ∧ q < C := fun q hq => by rw [hC]; exact World.ownsRow.lt hx2 q hq
      have HLO := hide (And.intro hlo1 (And.intro hlo2 hsep))
      have lt1 : w.heap.size + 1 + 1 < w2.heap.size := ltO2
      have lt2 : w2.heap.size ≤ C := by rw [hC]; exact hb3.size
      have ltC : C < wc.heap.size := BC.lt
      have hVL : t.routes.length ≤ 10 := HV.out.len.2
      go_wp2_with fail
      rw [← hwc, ← hC]
      clear hwc hC h3c hx1 hx2 hb3 hb02 hb03 HT2 HR2 HO2 BC hlo1 hlo2 hsep ltO2
      go_loopg [7] (t.routes.length) (fun g kv wr => ∃ k : Nat, k + g = t.routes.length ∧ kv = .int .i64 k ∧ Below wc.heap.size wc wr ∧ Hid (∀ (i : Nat) (x : Rt), i < k → t.routes[i]? = some x → Rl x r))
      case atStart => exact ⟨0, by omega, rfl, Below.refl _ _, hide (fun i c h => by omega)⟩
      case round =>
        obtain ⟨k, hk, rfl, hbe, HK⟩ := hrel
        have t0 := (hTc.out.up hbe).cell 0
        have r0 := (hRc.out.up hbe).cell 0
        have r1 := (hRc.out.up hbe).cell 1
        have r2 := (hRc.out.up hbe).cell 2
        by_cases hlt : k < t.routes.length
        · obtain ⟨b, off, rfl, hb, hcell⟩ := hr1 (by omega)
          obtain ⟨x, hck⟩ := get_some hlt
          have hwr := h0c.trans (hbe.mono h0c.size)
          obtain ⟨g1, g2, g3⟩ := routeAt (hcell.keep (w' := wr) fun p hp => hwr.cell (by omega)) hck
          have HC := hide hck
          clear hck
          go_upto_region 5 with fail
          have e0 := fun y => wext_cell wr y t0
          have e1 := fun y => wext_cell wr y r0
          have e2 := fun y => wext_cell wr y r1
          have e3 := fun y => wext_cell wr y r2
          have e4 := fun y => wext_cell wr y g1
          have e5 := fun y => wext_cell wr y g2
          have e6 := fun y => wext_cell wr y g3
          have hcm := fun W => less_any x r W
          by_cases h5 : Rl x r
          · rw [tb_yes h5] at hcm
            have HCM := hide hcm
            have H5 := hide h5
            clear hcm h5
            refine region_q (by kernel_rfl) (by kernel_rfl) ?_
            repeat (go_big_quiet_step ((first | (go_at_call 51; exact q_call (HCM.out _)))))
            refine wpQuiet_nil ?_
            intro wx hbx
            clear e0 e1 e2 e3 e4 e5 e6
            go_wp2
            go_roundg (gk - 1)
            case measure => omega
            case rel =>
              refine ⟨k + 1, by omega, by go_num, hbe.trans (hbx.mono hbe.size), hide (fun i y hi hy => ?_)⟩
              rcases Nat.lt_succ_iff_lt_or_eq.1 hi with h | h
              · exact HK.out i y h hy
              · subst h; rw [HC.out] at hy; cases hy; exact H5.out
          · rw [tb_no h5] at hcm
            have HCM := hide hcm
            have H5 := hide h5
            clear hcm h5
            refine region_q (by kernel_rfl) (by kernel_rfl) ?_
            repeat (go_big_quiet_step ((first | (go_at_call 51; exact q_call (HCM.out _)))))
            refine wpQuiet_nil ?_
            intro wx hbx
            clear e0 e1 e2 e3 e4 e5 e6
            have hpos : posR t.routes r = k := posR_eq (by omega) HK.out fun y hy => by rw [HC.out] at hy; cases hy; exact H5.out
            have HPOS := hide hpos
            clear hpos t0 r0 r1 r2 g1 g2 g3
            have hbx' := hbe.trans (hbx.mono hbe.size)
            have t0 := (hTc.out.up hbx').cell 0
            have r0 := (hRc.out.up hbx').cell 0
            have r1 := (hRc.out.up hbx').cell 1
            have r2 := (hRc.out.up hbx').cell 2
            obtain ⟨g1, g2, g3⟩ := routeAt (hcell.keep (w' := wx) fun p hp => (h0c.trans (hbx'.mono h0c.size)).cell (by omega)) HC.out
            go_upto_region 7 with fail
            have e0 := fun y => wext_cell wx y t0
            have e1 := fun y => wext_cell wx y r0
            have e2 := fun y => wext_cell wx y r1
            have e3 := fun y => wext_cell wx y r2
            have e4 := fun y => wext_cell wx y g1
            have e5 := fun y => wext_cell wx y g2
            have e6 := fun y => wext_cell wx y g3
            have hcm := fun W => less_any r x W
            by_cases h6 : Rl r x
            · rw [tb_yes h6] at hcm
              have HCM := hide hcm
              have H6 := hide h6
              clear hcm h6
              refine region_q (by kernel_rfl) (by kernel_rfl) ?_
              repeat (go_big_quiet_step ((first | (go_at_call 51; exact q_call (HCM.out _)))))
              refine wpQuiet_nil ?_
              intro wy hby
              clear e0 e1 e2 e3 e4 e5 e6 t0 r0 r1 r2 g1 g2 g3
              obtain ⟨wq, hwq⟩ : ∃ wq, wq = wy := ⟨_, rfl⟩
              subst hwq
              have hbq := hbx'.trans (hby.mono hbx'.size)
              clear hby hbx hbx' hbe
              have hnew : insL t.routes r = t.routes.take k ++ r :: t.routes.drop k := by
                have h := insL_new (l := t.routes) (r := r) (fun q hq => by rw [HPOS.out] at hq; exact (by rw [HC.out] at hq; cases hq; exact H6.out))
                rw [HPOS.out] at h
                exact h
              have HNEW := hide hnew
              clear hnew
              have t0 := (hTc.out.up hbq).cell 0
              by_cases h10 : t.routes.length < 10
              · have r0 := (hRc.out.up hbq).cell 0
                have r1 := (hRc.out.up hbq).cell 1
                have r2 := (hRc.out.up hbq).cell 2
                go_upto_region 12 with fail
                have hsX : wq.heap.size ≤ wq.drew.heap.size := Nat.le_refl _
                have hl1 : ∀ W, Below wq.heap.size wq W → SlR rc 3 W wq.heap.size (.slice (some ⟨b, off, none⟩) t.routes.length cap1) t.routes := fun W h => ((hvv.slr1 rfl).up (h0c.trans (hbq.mono h0c.size))).below h
                have hT : ∀ W, Below wq.heap.size wq W → W.cell? ⟨w.heap.size, 0, none⟩ = some (.slice (some ⟨b, off, none⟩) t.routes.length cap1) ∧ W.cell? ⟨w.heap.size + 1, 0, none⟩ = some (.int .i64 r.pre) ∧ W.cell? ⟨w.heap.size + 1, 1, none⟩ = some (.int .i64 r.bits) ∧ W.cell? ⟨w.heap.size + 1, 2, none⟩ = some (.int .i64 r.hop) := fun W h => ⟨((hTc.out.up hbq).up h).cell 0, ((hRc.out.up hbq).up h).cell 0, ((hRc.out.up hbq).up h).cell 1, ((hRc.out.up hbq).up h).cell 2⟩
                have HT := hide hT
                have hkn : k ≤ t.routes.length := by omega
                clear hT
                have i0 : (0 : Int) ≤ (k : Int) := by omega
                have i1 : (k : Int) ≤ (cap1 : Int) := by omega
                have i2 : (k : Int) ≤ (t.routes.length : Int) := by omega
                have n0 : w.heap.size ≠ C := by omega
                have n0' : C ≠ w.heap.size := by omega
                have n1 : w.heap.size + 1 ≠ C := by omega
                have n1' : C ≠ w.heap.size + 1 := by omega
                have hcap : ¬ cap1 = k := by omega
                go_region_held3 (fun w' => w'.cell? ⟨w.heap.size, 0, none⟩ = some (.slice (some ⟨b, off, none⟩) t.routes.length cap1) ∧ w'.cell? ⟨w.heap.size + 1, 0, none⟩ = some (.int .i64 r.pre) ∧ w'.cell? ⟨w.heap.size + 1, 1, none⟩ = some (.int .i64 r.bits) ∧ w'.cell? ⟨w.heap.size + 1, 2, none⟩ = some (.int .i64 r.hop)) (first | go_keep | exact HT.out _ hB77 | exact HT.out _ hB72 | exact HT.out _ hB69 | fail)
                  (first
                    | (refine step_appN (by rfl) infR (.tmp 64) (.tmp 68) (by rfl) _ _ (by rfl) (by rfl) wq [] (t.routes.take k) (t.routes.take k) k rfl (by simp; omega) ?_ ?_ (B := wq.heap.size) ?_ (by omega) ?_
                       · first | exact ownE wq.drew _ hsX | exact (ownE wq.drew _ hsX).below (below1 _ _) | exact ownE1 wq.drew _ _ hsX
                       · first | exact (below1 wq _).drew | exact (below2 wq _ _).drew
                       · first | exact (hl1 _ ((below1 wq _).drew)).take hkn | exact (hl1 _ ((below2 wq _ _).drew)).take hkn | exact slr_nil' (List.take_eq_nil_iff.2 (by first | (left; omega) | (right; apply List.eq_nil_of_length_eq_zero; omega))) (by omega)
                       intro A69 c69 w69 hO69 hg69 hB69
                       try (have hr69b := slr_one (enc := rc) (s := 3) (x := r) (B := w69.heap.size) ((Blk.new1 wq.drew (Obj.cells #[] 40) 40 #[.int .i64 r.pre, .int .i64 r.bits, .int .i64 r.hop]).grown hg69 (by intro h; have h2 : some (wq.heap.size + 1) = some wq.heap.size := h; injection h2; omega)) rfl (by have := hg69.size; simp at this ⊢; omega))
                       try (have hr69c := slr_one (enc := rc) (s := 3) (x := r) (B := w69.heap.size) (((Blk.new wq.drew 40 #[.int .i64 r.pre, .int .i64 r.bits, .int .i64 r.hop]).alloc (Obj.cells #[] 40)).grown hg69 (by intro h; have h2 : some wq.heap.size = some (wq.heap.size + 1) := h; injection h2; omega)) rfl (by have := hg69.size; simp at this ⊢; omega)))
                    | (refine step_appN (by rfl) infR (.tmp 69) (.tmp 71) (by rfl) _ _ (by rfl) (by rfl) wq (t.routes.take k) [r] (t.routes.take k ++ [r]) (k + 1) rfl (by simp; omega) ?_ ?_ (B := w69.heap.size + 1) ?_ (by omega) ?_
                       · first | exact hO69 | exact hO69.below (below1 _ _)
                       · first | exact hB69 | exact hB69.alloc hB69.size _
                       · first | exact (slr_one (enc := rc) (s := 3) (x := r) (B := w69.heap.size + 1) (Blk.new w69 40 #[.int .i64 r.pre, .int .i64 r.bits, .int .i64 r.hop]) rfl (by omega)) | exact hr69b.more (by omega) | exact hr69c.more (by omega)
                       intro A72 c72 w72 hO72 hg72 hB72)
                    | (refine step_appN (by rfl) infR (.tmp 72) (.tmp 76) (by rfl) _ _ (by rfl) (by rfl) wq (t.routes.take k ++ [r]) (t.routes.drop k) (t.routes.take k ++ r :: t.routes.drop k) (t.routes.length + 1) (by simp) (by simp; omega) ?_ ?_ (B := wq.heap.size) ?_ (by omega) ?_
                       · exact hO72
                       · exact hB72
                       · first | exact (hl1 _ hB72).drop hkn (by omega) | exact slr_nil' (List.drop_eq_nil_of_le (by omega)) (by omega)
                       intro A77 c77 w77 hO77 hg77 hB77
                       obtain ⟨p0, p1, p2, p3⟩ := HT.out _ hB77
                       have hC77 := (hBC.out.up hbq).up hB77
                       have c0 := hC77.cell 0
                       have y0 := hC77.free 0)
                    | fail)
                all_goals
                  obtain ⟨ws, hws⟩ : ∃ ws, ws = w77.setCell ⟨C, 0, none⟩ (.slice A77 (t.routes.length + 1) c77) := ⟨_, rfl⟩
                  have lq := hbq.size
                  have hSS : Own rc 40 3 ws w2.heap.size (.slice A77 (t.routes.length + 1) c77) (t.routes.take k ++ r :: t.routes.drop k) := by
                    rw [hws]; exact (own_far hO77 (fun q hq => by have := (World.ownsRow.lt hO77 q hq).1; show q ≠ C; omega) _).low (by omega)
                  have hCs : Blk ws C 30 #[.slice A77 (t.routes.length + 1) c77, .slice B2 t.hops.length cp2] := by rw [hws]; exact hC77.put 0 _
                  have hOs : Blk ws (w.heap.size + 1 + 1) 30 #[nl, nl] := by rw [hws]; exact ((hOc.out.up hbq).up hB77).far (by simp; omega) _
                  have hX2s : Own ic 3 1 ws w2.heap.size (.slice B2 t.hops.length cp2) t.hops := by
                    rw [hws]; exact own_far ((hX2.out.below hbq).below hB77) (fun q hq => by have := (HLO.out.2.1 q hq).2; show q ≠ C; omega) _
                  have hbs : Below w.heap.size w ws := by
                    rw [hws]; exact ((h0c.trans (hbq.mono h0c.size)).trans (hB77.mono (h0c.trans (hbq.mono h0c.size)).size)).setCell (by simp; omega) _
                  rw [← hws]
                  clear hws
                  have hadd : addT t r = (⟨t.routes.take k ++ r :: t.routes.drop k, t.hops⟩, true) := by
                    rw [addT_yes HV.out HR.out (by rw [HNEW.out]; simp; omega), HNEW.out]
                  have c0 := hCs.cell 0
                  have c1 := hCs.cell 1
                  have o0 := hOs.cell 0
                  have o1 := hOs.cell 1
                  have y0 := hOs.free 0
                  have y1 := hOs.free 1
                  have HADD := hide hadd
                  clear hadd
                  go_wp2_with fail
                  refine bodyPost_ret (v := .tuple #[.agg #[.slice (A77) (t.routes.length + 1) c77, .slice B2 t.hops.length cp2], .bool true]) (by simp [results, Try.results45, go_sem, o0, o1]) rfl ⟨_, by rw [HADD.out], by rw [HADD.out]; exact ownT_far hSS hX2s (own_types hSS hX2s (by decide)) (by omega) (by omega), (hbs.setCell (by simp; omega) _).setCell (by simp; omega) _⟩
              · have hC1 := hBC.out.up hbq
                have c0 := hC1.cell 0
                have c1 := hC1.cell 1
                have o0 := (hOc.out.up hbq).cell 0
                have o1 := (hOc.out.up hbq).cell 1
                have y0 := (hOc.out.up hbq).free 0
                have y1 := (hOc.out.up hbq).free 1
                have hadd : addT t r = (t, false) := addT_full HV.out HR.out (by rw [HNEW.out]; simp; omega)
                have HADD := hide hadd
                have hbs := h0c.trans (hbq.mono h0c.size)
                clear hadd hC1
                go_wp2_with fail
                refine bodyPost_ret (v := .tuple #[.agg #[.slice B1 t.routes.length cp1, .slice B2 t.hops.length cp2], .bool false]) (by simp [results, Try.results45, go_sem, o0, o1]) rfl ⟨_, by rw [HADD.out], by rw [HADD.out]; exact ownT_far (hX1.out.below hbq) (hX2.out.below hbq) HLO.out.2.2 (by omega) (by omega), (hbs.setCell (by simp; omega) _).setCell (by simp; omega) _⟩
            · rw [tb_no h6] at hcm
              have HCM := hide hcm
              have H6 := hide h6
              clear hcm h6
              refine region_q (by kernel_rfl) (by kernel_rfl) ?_
              repeat (go_big_quiet_step ((first | (go_at_call 51; exact q_call (HCM.out _)))))
              refine wpQuiet_nil ?_
              intro wy hby
              clear e0 e1 e2 e3 e4 e5 e6
              have hby' := hbx'.trans (hby.mono hbx'.size)
              have hX := hX1.out.below hby'
              obtain ⟨go, cpg, hx, hgo1, hgo2⟩ := hX.form (by omega)
              have hA : B1 = some ⟨go, 0, none⟩ := by injection hx
              subst hA
              clear hx t0 r0 r1 r2 g1 g2 g3
              obtain ⟨⟨u0, q0⟩, z0⟩ := hX.slot (k := k) (j := 0) rfl hlt (by decide)
              obtain ⟨⟨u1, q1⟩, z1⟩ := hX.slot (k := k) (j := 1) rfl hlt (by decide)
              obtain ⟨⟨u2, q2⟩, z2⟩ := hX.slot (k := k) (j := 2) rfl hlt (by decide)
              rw [Nat.add_zero] at q0 z0
              have hgC : go < C := (HLO.out.1 go rfl).2
              have HS := hide (own_set3 (r := r) hX rfl HC.out)
              have s0 := (hBC.out.up hby').cell 0
              have r0 := (hRc.out.up hby').cell 0
              have r1 := (hRc.out.up hby').cell 1
              have r2 := (hRc.out.up hby').cell 2
              clear hX
              go_upto_region 9 with fail
              obtain ⟨ws, hws⟩ : ∃ ws, ws = ((wy.setCell ⟨go, k * 3, none⟩ (.int .i64 r.pre)).setCell ⟨go, k * 3 + 1, none⟩ (.int .i64 r.bits)).setCell ⟨go, k * 3 + 2, none⟩ (.int .i64 r.hop) := ⟨_, rfl⟩
              have hSS : Own rc 40 3 ws w2.heap.size (.slice (some ⟨go, 0, none⟩) t.routes.length cp1) (t.routes.set k r) := by rw [hws]; exact HS.out
              have hCs : Blk ws C 30 #[.slice (some ⟨go, 0, none⟩) t.routes.length cp1, .slice B2 t.hops.length cp2] := by
                rw [hws]; exact (((hBC.out.up hby').far (by simp; omega) _).far (by simp; omega) _).far (by simp; omega) _
              have hOs : Blk ws (w.heap.size + 1 + 1) 30 #[nl, nl] := by
                rw [hws]; exact (((hOc.out.up hby').far (by simp; omega) _).far (by simp; omega) _).far (by simp; omega) _
              have hX2s : Own ic 3 1 ws w2.heap.size (.slice B2 t.hops.length cp2) t.hops := by
                have hn3 : ∀ q, (Value.slice B2 t.hops.length cp2).ownBlock = some q → q ≠ go := fun q hq e => HLO.out.2.2 go rfl (e ▸ hq)
                rw [hws]; exact own_far (own_far (own_far (hX2.out.below hby') hn3 _) hn3 _) hn3 _
              have hbs : Below w.heap.size w ws := by
                rw [hws]; exact (((h0c.trans (hby'.mono h0c.size)).setCell (by simp; omega) _).setCell (by simp; omega) _).setCell (by simp; omega) _
              rw [← hws]
              clear hws q0 q1 q2 z0 z1 z2 s0 r0 r1 r2 HS
              have hadd : addT t r = (⟨t.routes.set k r, t.hops⟩, true) := by
                have hi := nth_set (l := t.routes) (r := r) (q := x) (by rw [HPOS.out]; exact HC.out) H6.out HPOS.out
                rw [addT_yes HV.out HR.out (by rw [hi]; simpa using hVL), hi]
              have c0 := hCs.cell 0
              have c1 := hCs.cell 1
              have o0 := hOs.cell 0
              have o1 := hOs.cell 1
              have y0 := hOs.free 0
              have y1 := hOs.free 1
              have HADD := hide hadd
              clear hadd
              go_wp2_with fail
              refine bodyPost_ret (v := .tuple #[.agg #[.slice (some ⟨go, 0, none⟩) t.routes.length cp1, .slice B2 t.hops.length cp2], .bool true]) (by simp [results, Try.results45, go_sem, o0, o1]) rfl ⟨_, by rw [HADD.out], by rw [HADD.out]; exact ownT_far hSS hX2s HLO.out.2.2 (by omega) (by omega), (hbs.setCell (by simp; omega) _).setCell (by simp; omega) _⟩
        · have hkk : t.routes.length ≤ k := by omega
          have hpos : posR t.routes r = k := posR_eq (by omega) HK.out fun y hy => by have := get_lt hy; omega
          have HPOS := hide hpos
          clear hpos
          go_upto_region 5 with fail
          have e0 := fun y => wext_cell wr y t0
          refine region_q (by kernel_rfl) (by kernel_rfl) ?_
          repeat (go_big_quiet_step ((first | (fail))))
          refine wpQuiet_nil ?_
          intro wx hbx
          clear e0 t0 r0 r1 r2
          have hbx' := hbe.trans (hbx.mono hbe.size)
          have t0 := (hTc.out.up hbx').cell 0
          go_upto_region 7 with fail
          have e0 := fun y => wext_cell wx y t0
          refine region_q (by kernel_rfl) (by kernel_rfl) ?_
          repeat (go_big_quiet_step ((first | (fail))))
          refine wpQuiet_nil ?_
          intro wy hby
          clear e0 t0
          obtain ⟨wq, hwq⟩ : ∃ wq, wq = wy := ⟨_, rfl⟩
          subst hwq
          have hbq := hbx'.trans (hby.mono hbx'.size)
          clear hby hbx hbx' hbe
          have hnew : insL t.routes r = t.routes.take k ++ r :: t.routes.drop k := by
            have h := insL_new (l := t.routes) (r := r) (fun q hq => by rw [HPOS.out] at hq; exact (by have := get_lt hq; omega))
            rw [HPOS.out] at h
            exact h
          have HNEW := hide hnew
          clear hnew
          have t0 := (hTc.out.up hbq).cell 0
          by_cases h10 : t.routes.length < 10
          · have r0 := (hRc.out.up hbq).cell 0
            have r1 := (hRc.out.up hbq).cell 1
            have r2 := (hRc.out.up hbq).cell 2
            go_upto_region 12 with fail
            have hsX : wq.heap.size ≤ wq.drew.heap.size := Nat.le_refl _
            have hl1 : ∀ W, Below wq.heap.size wq W → SlR rc 3 W wq.heap.size (.slice (A1) t.routes.length cap1) t.routes := fun W h => ((hvv.slr1 rfl).up (h0c.trans (hbq.mono h0c.size))).below h
            have hT : ∀ W, Below wq.heap.size wq W → W.cell? ⟨w.heap.size, 0, none⟩ = some (.slice (A1) t.routes.length cap1) ∧ W.cell? ⟨w.heap.size + 1, 0, none⟩ = some (.int .i64 r.pre) ∧ W.cell? ⟨w.heap.size + 1, 1, none⟩ = some (.int .i64 r.bits) ∧ W.cell? ⟨w.heap.size + 1, 2, none⟩ = some (.int .i64 r.hop) := fun W h => ⟨((hTc.out.up hbq).up h).cell 0, ((hRc.out.up hbq).up h).cell 0, ((hRc.out.up hbq).up h).cell 1, ((hRc.out.up hbq).up h).cell 2⟩
            have HT := hide hT
            have hkn : k ≤ t.routes.length := by omega
            clear hT
            have i0 : (0 : Int) ≤ (k : Int) := by omega
            have i1 : (k : Int) ≤ (cap1 : Int) := by omega
            have i2 : (k : Int) ≤ (t.routes.length : Int) := by omega
            have n0 : w.heap.size ≠ C := by omega
            have n0' : C ≠ w.heap.size := by omega
            have n1 : w.heap.size + 1 ≠ C := by omega
            have n1' : C ≠ w.heap.size + 1 := by omega
            rcases Nat.eq_zero_or_pos t.routes.length with hn0 | hn0
            · have hk0 : k ≤ 0 := by omega
              have HN0 := hide hn0
              clear hn0
              rcases A1 with _ | ad
              · by_cases hcap : cap1 = k
                · obtain rfl : k = cap1 := hcap.symm
                  go_region_held3 (fun w' => w'.cell? ⟨w.heap.size, 0, none⟩ = some (.slice (none) t.routes.length k) ∧ w'.cell? ⟨w.heap.size + 1, 0, none⟩ = some (.int .i64 r.pre) ∧ w'.cell? ⟨w.heap.size + 1, 1, none⟩ = some (.int .i64 r.bits) ∧ w'.cell? ⟨w.heap.size + 1, 2, none⟩ = some (.int .i64 r.hop)) (first | go_keep | exact HT.out _ hB77 | exact HT.out _ hB72 | exact HT.out _ hB69 | fail)
                    (first
                      | (refine step_appN (by rfl) infR (.tmp 64) (.tmp 68) (by rfl) _ _ (by rfl) (by rfl) wq [] (t.routes.take k) (t.routes.take k) k rfl (by simp; omega) ?_ ?_ (B := wq.heap.size) ?_ (by omega) ?_
                         · first | exact ownE wq.drew _ hsX | exact (ownE wq.drew _ hsX).below (below1 _ _) | exact ownE1 wq.drew _ _ hsX
                         · first | exact (below1 wq _).drew | exact (below2 wq _ _).drew
                         · first | exact (hl1 _ ((below1 wq _).drew)).take hkn | exact (hl1 _ ((below2 wq _ _).drew)).take hkn | exact slr_nil' (List.take_eq_nil_iff.2 (by first | (left; omega) | (right; apply List.eq_nil_of_length_eq_zero; omega))) (by omega)
                         intro A69 c69 w69 hO69 hg69 hB69
                         try (have hr69b := slr_one (enc := rc) (s := 3) (x := r) (B := w69.heap.size) ((Blk.new1 wq.drew (Obj.cells #[] 40) 40 #[.int .i64 r.pre, .int .i64 r.bits, .int .i64 r.hop]).grown hg69 (by intro h; have h2 : some (wq.heap.size + 1) = some wq.heap.size := h; injection h2; omega)) rfl (by have := hg69.size; simp at this ⊢; omega))
                         try (have hr69c := slr_one (enc := rc) (s := 3) (x := r) (B := w69.heap.size) (((Blk.new wq.drew 40 #[.int .i64 r.pre, .int .i64 r.bits, .int .i64 r.hop]).alloc (Obj.cells #[] 40)).grown hg69 (by intro h; have h2 : some wq.heap.size = some (wq.heap.size + 1) := h; injection h2; omega)) rfl (by have := hg69.size; simp at this ⊢; omega)))
                      | (refine step_appN (by rfl) infR (.tmp 69) (.tmp 71) (by rfl) _ _ (by rfl) (by rfl) wq (t.routes.take k) [r] (t.routes.take k ++ [r]) (k + 1) rfl (by simp; omega) ?_ ?_ (B := w69.heap.size + 1) ?_ (by omega) ?_
                         · first | exact hO69 | exact hO69.below (below1 _ _)
                         · first | exact hB69 | exact hB69.alloc hB69.size _
                         · first | exact (slr_one (enc := rc) (s := 3) (x := r) (B := w69.heap.size + 1) (Blk.new w69 40 #[.int .i64 r.pre, .int .i64 r.bits, .int .i64 r.hop]) rfl (by omega)) | exact hr69b.more (by omega) | exact hr69c.more (by omega)
                         intro A72 c72 w72 hO72 hg72 hB72)
                      | (refine step_appN (by rfl) infR (.tmp 72) (.tmp 76) (by rfl) _ _ (by rfl) (by rfl) wq (t.routes.take k ++ [r]) (t.routes.drop k) (t.routes.take k ++ r :: t.routes.drop k) (t.routes.length + 1) (by simp) (by simp; omega) ?_ ?_ (B := wq.heap.size) ?_ (by omega) ?_
                         · exact hO72
                         · exact hB72
                         · first | exact (hl1 _ hB72).drop hkn (by omega) | exact slr_nil' (List.drop_eq_nil_of_le (by omega)) (by omega)
                         intro A77 c77 w77 hO77 hg77 hB77
                         obtain ⟨p0, p1, p2, p3⟩ := HT.out _ hB77
                         have hC77 := (hBC.out.up hbq).up hB77
                         have c0 := hC77.cell 0
                         have y0 := hC77.free 0)
                      | fail)
                  all_goals
                    obtain ⟨ws, hws⟩ : ∃ ws, ws = w77.setCell ⟨C, 0, none⟩ (.slice A77 (t.routes.length + 1) c77) := ⟨_, rfl⟩
                    have lq := hbq.size
                    have hSS : Own rc 40 3 ws w2.heap.size (.slice A77 (t.routes.length + 1) c77) (t.routes.take k ++ r :: t.routes.drop k) := by
                      rw [hws]; exact (own_far hO77 (fun q hq => by have := (World.ownsRow.lt hO77 q hq).1; show q ≠ C; omega) _).low (by omega)
                    have hCs : Blk ws C 30 #[.slice A77 (t.routes.length + 1) c77, .slice B2 t.hops.length cp2] := by rw [hws]; exact hC77.put 0 _
                    have hOs : Blk ws (w.heap.size + 1 + 1) 30 #[nl, nl] := by rw [hws]; exact ((hOc.out.up hbq).up hB77).far (by simp; omega) _
                    have hX2s : Own ic 3 1 ws w2.heap.size (.slice B2 t.hops.length cp2) t.hops := by
                      rw [hws]; exact own_far ((hX2.out.below hbq).below hB77) (fun q hq => by have := (HLO.out.2.1 q hq).2; show q ≠ C; omega) _
                    have hbs : Below w.heap.size w ws := by
                      rw [hws]; exact ((h0c.trans (hbq.mono h0c.size)).trans (hB77.mono (h0c.trans (hbq.mono h0c.size)).size)).setCell (by simp; omega) _
                    rw [← hws]
                    clear hws
                    have hadd : addT t r = (⟨t.routes.take k ++ r :: t.routes.drop k, t.hops⟩, true) := by
                      rw [addT_yes HV.out HR.out (by rw [HNEW.out]; simp; omega), HNEW.out]
                    have c0 := hCs.cell 0
                    have c1 := hCs.cell 1
                    have o0 := hOs.cell 0
                    have o1 := hOs.cell 1
                    have y0 := hOs.free 0
                    have y1 := hOs.free 1
                    have HADD := hide hadd
                    clear hadd
                    go_wp2_with fail
                    refine bodyPost_ret (v := .tuple #[.agg #[.slice (A77) (t.routes.length + 1) c77, .slice B2 t.hops.length cp2], .bool true]) (by simp [results, Try.results45, go_sem, o0, o1]) rfl ⟨_, by rw [HADD.out], by rw [HADD.out]; exact ownT_far hSS hX2s (own_types hSS hX2s (by decide)) (by omega) (by omega), (hbs.setCell (by simp; omega) _).setCell (by simp; omega) _⟩
                · go_region_held3 (fun w' => w'.cell? ⟨w.heap.size, 0, none⟩ = some (.slice (none) t.routes.length cap1) ∧ w'.cell? ⟨w.heap.size + 1, 0, none⟩ = some (.int .i64 r.pre) ∧ w'.cell? ⟨w.heap.size + 1, 1, none⟩ = some (.int .i64 r.bits) ∧ w'.cell? ⟨w.heap.size + 1, 2, none⟩ = some (.int .i64 r.hop)) (first | go_keep | exact HT.out _ hB77 | exact HT.out _ hB72 | exact HT.out _ hB69 | fail)
                    (first
                      | (refine step_appN (by rfl) infR (.tmp 64) (.tmp 68) (by rfl) _ _ (by rfl) (by rfl) wq [] (t.routes.take k) (t.routes.take k) k rfl (by simp; omega) ?_ ?_ (B := wq.heap.size) ?_ (by omega) ?_
                         · first | exact ownE wq.drew _ hsX | exact (ownE wq.drew _ hsX).below (below1 _ _) | exact ownE1 wq.drew _ _ hsX
                         · first | exact (below1 wq _).drew | exact (below2 wq _ _).drew
                         · first | exact (hl1 _ ((below1 wq _).drew)).take hkn | exact (hl1 _ ((below2 wq _ _).drew)).take hkn | exact slr_nil' (List.take_eq_nil_iff.2 (by first | (left; omega) | (right; apply List.eq_nil_of_length_eq_zero; omega))) (by omega)
                         intro A69 c69 w69 hO69 hg69 hB69
                         try (have hr69b := slr_one (enc := rc) (s := 3) (x := r) (B := w69.heap.size) ((Blk.new1 wq.drew (Obj.cells #[] 40) 40 #[.int .i64 r.pre, .int .i64 r.bits, .int .i64 r.hop]).grown hg69 (by intro h; have h2 : some (wq.heap.size + 1) = some wq.heap.size := h; injection h2; omega)) rfl (by have := hg69.size; simp at this ⊢; omega))
                         try (have hr69c := slr_one (enc := rc) (s := 3) (x := r) (B := w69.heap.size) (((Blk.new wq.drew 40 #[.int .i64 r.pre, .int .i64 r.bits, .int .i64 r.hop]).alloc (Obj.cells #[] 40)).grown hg69 (by intro h; have h2 : some wq.heap.size = some (wq.heap.size + 1) := h; injection h2; omega)) rfl (by have := hg69.size; simp at this ⊢; omega)))
                      | (refine step_appN (by rfl) infR (.tmp 69) (.tmp 71) (by rfl) _ _ (by rfl) (by rfl) wq (t.routes.take k) [r] (t.routes.take k ++ [r]) (k + 1) rfl (by simp; omega) ?_ ?_ (B := w69.heap.size + 1) ?_ (by omega) ?_
                         · first | exact hO69 | exact hO69.below (below1 _ _)
                         · first | exact hB69 | exact hB69.alloc hB69.size _
                         · first | exact (slr_one (enc := rc) (s := 3) (x := r) (B := w69.heap.size + 1) (Blk.new w69 40 #[.int .i64 r.pre, .int .i64 r.bits, .int .i64 r.hop]) rfl (by omega)) | exact hr69b.more (by omega) | exact hr69c.more (by omega)
                         intro A72 c72 w72 hO72 hg72 hB72)
                      | (refine step_appN (by rfl) infR (.tmp 72) (.tmp 76) (by rfl) _ _ (by rfl) (by rfl) wq (t.routes.take k ++ [r]) (t.routes.drop k) (t.routes.take k ++ r :: t.routes.drop k) (t.routes.length + 1) (by simp) (by simp; omega) ?_ ?_ (B := wq.heap.size) ?_ (by omega) ?_
                         · exact hO72
                         · exact hB72
                         · first | exact (hl1 _ hB72).drop hkn (by omega) | exact slr_nil' (List.drop_eq_nil_of_le (by omega)) (by omega)
                         intro A77 c77 w77 hO77 hg77 hB77
                         obtain ⟨p0, p1, p2, p3⟩ := HT.out _ hB77
                         have hC77 := (hBC.out.up hbq).up hB77
                         have c0 := hC77.cell 0
                         have y0 := hC77.free 0)
                      | fail)
                  all_goals
                    obtain ⟨ws, hws⟩ : ∃ ws, ws = w77.setCell ⟨C, 0, none⟩ (.slice A77 (t.routes.length + 1) c77) := ⟨_, rfl⟩
                    have lq := hbq.size
                    have hSS : Own rc 40 3 ws w2.heap.size (.slice A77 (t.routes.length + 1) c77) (t.routes.take k ++ r :: t.routes.drop k) := by
                      rw [hws]; exact (own_far hO77 (fun q hq => by have := (World.ownsRow.lt hO77 q hq).1; show q ≠ C; omega) _).low (by omega)
                    have hCs : Blk ws C 30 #[.slice A77 (t.routes.length + 1) c77, .slice B2 t.hops.length cp2] := by rw [hws]; exact hC77.put 0 _
                    have hOs : Blk ws (w.heap.size + 1 + 1) 30 #[nl, nl] := by rw [hws]; exact ((hOc.out.up hbq).up hB77).far (by simp; omega) _
                    have hX2s : Own ic 3 1 ws w2.heap.size (.slice B2 t.hops.length cp2) t.hops := by
                      rw [hws]; exact own_far ((hX2.out.below hbq).below hB77) (fun q hq => by have := (HLO.out.2.1 q hq).2; show q ≠ C; omega) _
                    have hbs : Below w.heap.size w ws := by
                      rw [hws]; exact ((h0c.trans (hbq.mono h0c.size)).trans (hB77.mono (h0c.trans (hbq.mono h0c.size)).size)).setCell (by simp; omega) _
                    rw [← hws]
                    clear hws
                    have hadd : addT t r = (⟨t.routes.take k ++ r :: t.routes.drop k, t.hops⟩, true) := by
                      rw [addT_yes HV.out HR.out (by rw [HNEW.out]; simp; omega), HNEW.out]
                    have c0 := hCs.cell 0
                    have c1 := hCs.cell 1
                    have o0 := hOs.cell 0
                    have o1 := hOs.cell 1
                    have y0 := hOs.free 0
                    have y1 := hOs.free 1
                    have HADD := hide hadd
                    clear hadd
                    go_wp2_with fail
                    refine bodyPost_ret (v := .tuple #[.agg #[.slice (A77) (t.routes.length + 1) c77, .slice B2 t.hops.length cp2], .bool true]) (by simp [results, Try.results45, go_sem, o0, o1]) rfl ⟨_, by rw [HADD.out], by rw [HADD.out]; exact ownT_far hSS hX2s (own_types hSS hX2s (by decide)) (by omega) (by omega), (hbs.setCell (by simp; omega) _).setCell (by simp; omega) _⟩
              · by_cases hcap : cap1 = k
                · obtain rfl : k = cap1 := hcap.symm
                  go_region_held3 (fun w' => w'.cell? ⟨w.heap.size, 0, none⟩ = some (.slice (some ad) t.routes.length k) ∧ w'.cell? ⟨w.heap.size + 1, 0, none⟩ = some (.int .i64 r.pre) ∧ w'.cell? ⟨w.heap.size + 1, 1, none⟩ = some (.int .i64 r.bits) ∧ w'.cell? ⟨w.heap.size + 1, 2, none⟩ = some (.int .i64 r.hop)) (first | go_keep | exact HT.out _ hB77 | exact HT.out _ hB72 | exact HT.out _ hB69 | fail)
                    (first
                      | (refine step_appN (by rfl) infR (.tmp 64) (.tmp 68) (by rfl) _ _ (by rfl) (by rfl) wq [] (t.routes.take k) (t.routes.take k) k rfl (by simp; omega) ?_ ?_ (B := wq.heap.size) ?_ (by omega) ?_
                         · first | exact ownE wq.drew _ hsX | exact (ownE wq.drew _ hsX).below (below1 _ _) | exact ownE1 wq.drew _ _ hsX
                         · first | exact (below1 wq _).drew | exact (below2 wq _ _).drew
                         · first | exact (hl1 _ ((below1 wq _).drew)).take hkn | exact (hl1 _ ((below2 wq _ _).drew)).take hkn | exact slr_nil' (List.take_eq_nil_iff.2 (by first | (left; omega) | (right; apply List.eq_nil_of_length_eq_zero; omega))) (by omega)
                         intro A69 c69 w69 hO69 hg69 hB69
                         try (have hr69b := slr_one (enc := rc) (s := 3) (x := r) (B := w69.heap.size) ((Blk.new1 wq.drew (Obj.cells #[] 40) 40 #[.int .i64 r.pre, .int .i64 r.bits, .int .i64 r.hop]).grown hg69 (by intro h; have h2 : some (wq.heap.size + 1) = some wq.heap.size := h; injection h2; omega)) rfl (by have := hg69.size; simp at this ⊢; omega))
                         try (have hr69c := slr_one (enc := rc) (s := 3) (x := r) (B := w69.heap.size) (((Blk.new wq.drew 40 #[.int .i64 r.pre, .int .i64 r.bits, .int .i64 r.hop]).alloc (Obj.cells #[] 40)).grown hg69 (by intro h; have h2 : some wq.heap.size = some (wq.heap.size + 1) := h; injection h2; omega)) rfl (by have := hg69.size; simp at this ⊢; omega)))
                      | (refine step_appN (by rfl) infR (.tmp 69) (.tmp 71) (by rfl) _ _ (by rfl) (by rfl) wq (t.routes.take k) [r] (t.routes.take k ++ [r]) (k + 1) rfl (by simp; omega) ?_ ?_ (B := w69.heap.size + 1) ?_ (by omega) ?_
                         · first | exact hO69 | exact hO69.below (below1 _ _)
                         · first | exact hB69 | exact hB69.alloc hB69.size _
                         · first | exact (slr_one (enc := rc) (s := 3) (x := r) (B := w69.heap.size + 1) (Blk.new w69 40 #[.int .i64 r.pre, .int .i64 r.bits, .int .i64 r.hop]) rfl (by omega)) | exact hr69b.more (by omega) | exact hr69c.more (by omega)
                         intro A72 c72 w72 hO72 hg72 hB72)
                      | (refine step_appN (by rfl) infR (.tmp 72) (.tmp 76) (by rfl) _ _ (by rfl) (by rfl) wq (t.routes.take k ++ [r]) (t.routes.drop k) (t.routes.take k ++ r :: t.routes.drop k) (t.routes.length + 1) (by simp) (by simp; omega) ?_ ?_ (B := wq.heap.size) ?_ (by omega) ?_
                         · exact hO72
                         · exact hB72
                         · first | exact (hl1 _ hB72).drop hkn (by omega) | exact slr_nil' (List.drop_eq_nil_of_le (by omega)) (by omega)
                         intro A77 c77 w77 hO77 hg77 hB77
                         obtain ⟨p0, p1, p2, p3⟩ := HT.out _ hB77
                         have hC77 := (hBC.out.up hbq).up hB77
                         have c0 := hC77.cell 0
                         have y0 := hC77.free 0)
                      | fail)
                  all_goals
                    obtain ⟨ws, hws⟩ : ∃ ws, ws = w77.setCell ⟨C, 0, none⟩ (.slice A77 (t.routes.length + 1) c77) := ⟨_, rfl⟩
                    have lq := hbq.size
                    have hSS : Own rc 40 3 ws w2.heap.size (.slice A77 (t.routes.length + 1) c77) (t.routes.take k ++ r :: t.routes.drop k) := by
                      rw [hws]; exact (own_far hO77 (fun q hq => by have := (World.ownsRow.lt hO77 q hq).1; show q ≠ C; omega) _).low (by omega)
                    have hCs : Blk ws C 30 #[.slice A77 (t.routes.length + 1) c77, .slice B2 t.hops.length cp2] := by rw [hws]; exact hC77.put 0 _
                    have hOs : Blk ws (w.heap.size + 1 + 1) 30 #[nl, nl] := by rw [hws]; exact ((hOc.out.up hbq).up hB77).far (by simp; omega) _
                    have hX2s : Own ic 3 1 ws w2.heap.size (.slice B2 t.hops.length cp2) t.hops := by
                      rw [hws]; exact own_far ((hX2.out.below hbq).below hB77) (fun q hq => by have := (HLO.out.2.1 q hq).2; show q ≠ C; omega) _
                    have hbs : Below w.heap.size w ws := by
                      rw [hws]; exact ((h0c.trans (hbq.mono h0c.size)).trans (hB77.mono (h0c.trans (hbq.mono h0c.size)).size)).setCell (by simp; omega) _
                    rw [← hws]
                    clear hws
                    have hadd : addT t r = (⟨t.routes.take k ++ r :: t.routes.drop k, t.hops⟩, true) := by
                      rw [addT_yes HV.out HR.out (by rw [HNEW.out]; simp; omega), HNEW.out]
                    have c0 := hCs.cell 0
                    have c1 := hCs.cell 1
                    have o0 := hOs.cell 0
                    have o1 := hOs.cell 1
                    have y0 := hOs.free 0
                    have y1 := hOs.free 1
                    have HADD := hide hadd
                    clear hadd
                    go_wp2_with fail
                    refine bodyPost_ret (v := .tuple #[.agg #[.slice (A77) (t.routes.length + 1) c77, .slice B2 t.hops.length cp2], .bool true]) (by simp [results, Try.results45, go_sem, o0, o1]) rfl ⟨_, by rw [HADD.out], by rw [HADD.out]; exact ownT_far hSS hX2s (own_types hSS hX2s (by decide)) (by omega) (by omega), (hbs.setCell (by simp; omega) _).setCell (by simp; omega) _⟩
                · go_region_held3 (fun w' => w'.cell? ⟨w.heap.size, 0, none⟩ = some (.slice (some ad) t.routes.length cap1) ∧ w'.cell? ⟨w.heap.size + 1, 0, none⟩ = some (.int .i64 r.pre) ∧ w'.cell? ⟨w.heap.size + 1, 1, none⟩ = some (.int .i64 r.bits) ∧ w'.cell? ⟨w.heap.size + 1, 2, none⟩ = some (.int .i64 r.hop)) (first | go_keep | exact HT.out _ hB77 | exact HT.out _ hB72 | exact HT.out _ hB69 | fail)
                    (first
                      | (refine step_appN (by rfl) infR (.tmp 64) (.tmp 68) (by rfl) _ _ (by rfl) (by rfl) wq [] (t.routes.take k) (t.routes.take k) k rfl (by simp; omega) ?_ ?_ (B := wq.heap.size) ?_ (by omega) ?_
                         · first | exact ownE wq.drew _ hsX | exact (ownE wq.drew _ hsX).below (below1 _ _) | exact ownE1 wq.drew _ _ hsX
                         · first | exact (below1 wq _).drew | exact (below2 wq _ _).drew
                         · first | exact (hl1 _ ((below1 wq _).drew)).take hkn | exact (hl1 _ ((below2 wq _ _).drew)).take hkn | exact slr_nil' (List.take_eq_nil_iff.2 (by first | (left; omega) | (right; apply List.eq_nil_of_length_eq_zero; omega))) (by omega)
                         intro A69 c69 w69 hO69 hg69 hB69
                         try (have hr69b := slr_one (enc := rc) (s := 3) (x := r) (B := w69.heap.size) ((Blk.new1 wq.drew (Obj.cells #[] 40) 40 #[.int .i64 r.pre, .int .i64 r.bits, .int .i64 r.hop]).grown hg69 (by intro h; have h2 : some (wq.heap.size + 1) = some wq.heap.size := h; injection h2; omega)) rfl (by have := hg69.size; simp at this ⊢; omega))
                         try (have hr69c := slr_one (enc := rc) (s := 3) (x := r) (B := w69.heap.size) (((Blk.new wq.drew 40 #[.int .i64 r.pre, .int .i64 r.bits, .int .i64 r.hop]).alloc (Obj.cells #[] 40)).grown hg69 (by intro h; have h2 : some wq.heap.size = some (wq.heap.size + 1) := h; injection h2; omega)) rfl (by have := hg69.size; simp at this ⊢; omega)))
                      | (refine step_appN (by rfl) infR (.tmp 69) (.tmp 71) (by rfl) _ _ (by rfl) (by rfl) wq (t.routes.take k) [r] (t.routes.take k ++ [r]) (k + 1) rfl (by simp; omega) ?_ ?_ (B := w69.heap.size + 1) ?_ (by omega) ?_
                         · first | exact hO69 | exact hO69.below (below1 _ _)
                         · first | exact hB69 | exact hB69.alloc hB69.size _
                         · first | exact (slr_one (enc := rc) (s := 3) (x := r) (B := w69.heap.size + 1) (Blk.new w69 40 #[.int .i64 r.pre, .int .i64 r.bits, .int .i64 r.hop]) rfl (by omega)) | exact hr69b.more (by omega) | exact hr69c.more (by omega)
                         intro A72 c72 w72 hO72 hg72 hB72)
                      | (refine step_appN (by rfl) infR (.tmp 72) (.tmp 76) (by rfl) _ _ (by rfl) (by rfl) wq (t.routes.take k ++ [r]) (t.routes.drop k) (t.routes.take k ++ r :: t.routes.drop k) (t.routes.length + 1) (by simp) (by simp; omega) ?_ ?_ (B := wq.heap.size) ?_ (by omega) ?_
                         · exact hO72
                         · exact hB72
                         · first | exact (hl1 _ hB72).drop hkn (by omega) | exact slr_nil' (List.drop_eq_nil_of_le (by omega)) (by omega)
                         intro A77 c77 w77 hO77 hg77 hB77
                         obtain ⟨p0, p1, p2, p3⟩ := HT.out _ hB77
                         have hC77 := (hBC.out.up hbq).up hB77
                         have c0 := hC77.cell 0
                         have y0 := hC77.free 0)
                      | fail)
                  all_goals
                    obtain ⟨ws, hws⟩ : ∃ ws, ws = w77.setCell ⟨C, 0, none⟩ (.slice A77 (t.routes.length + 1) c77) := ⟨_, rfl⟩
                    have lq := hbq.size
                    have hSS : Own rc 40 3 ws w2.heap.size (.slice A77 (t.routes.length + 1) c77) (t.routes.take k ++ r :: t.routes.drop k) := by
                      rw [hws]; exact (own_far hO77 (fun q hq => by have := (World.ownsRow.lt hO77 q hq).1; show q ≠ C; omega) _).low (by omega)
                    have hCs : Blk ws C 30 #[.slice A77 (t.routes.length + 1) c77, .slice B2 t.hops.length cp2] := by rw [hws]; exact hC77.put 0 _
                    have hOs : Blk ws (w.heap.size + 1 + 1) 30 #[nl, nl] := by rw [hws]; exact ((hOc.out.up hbq).up hB77).far (by simp; omega) _
                    have hX2s : Own ic 3 1 ws w2.heap.size (.slice B2 t.hops.length cp2) t.hops := by
                      rw [hws]; exact own_far ((hX2.out.below hbq).below hB77) (fun q hq => by have := (HLO.out.2.1 q hq).2; show q ≠ C; omega) _
                    have hbs : Below w.heap.size w ws := by
                      rw [hws]; exact ((h0c.trans (hbq.mono h0c.size)).trans (hB77.mono (h0c.trans (hbq.mono h0c.size)).size)).setCell (by simp; omega) _
                    rw [← hws]
                    clear hws
                    have hadd : addT t r = (⟨t.routes.take k ++ r :: t.routes.drop k, t.hops⟩, true) := by
                      rw [addT_yes HV.out HR.out (by rw [HNEW.out]; simp; omega), HNEW.out]
                    have c0 := hCs.cell 0
                    have c1 := hCs.cell 1
                    have o0 := hOs.cell 0
                    have o1 := hOs.cell 1
                    have y0 := hOs.free 0
                    have y1 := hOs.free 1
                    have HADD := hide hadd
                    clear hadd
                    go_wp2_with fail
                    refine bodyPost_ret (v := .tuple #[.agg #[.slice (A77) (t.routes.length + 1) c77, .slice B2 t.hops.length cp2], .bool true]) (by simp [results, Try.results45, go_sem, o0, o1]) rfl ⟨_, by rw [HADD.out], by rw [HADD.out]; exact ownT_far hSS hX2s (own_types hSS hX2s (by decide)) (by omega) (by omega), (hbs.setCell (by simp; omega) _).setCell (by simp; omega) _⟩
            · obtain ⟨b, off, rfl, hb, hcell⟩ := hr1 hn0
              clear hcell
              by_cases hcap : cap1 = k
              · obtain rfl : k = cap1 := hcap.symm
                go_region_held3 (fun w' => w'.cell? ⟨w.heap.size, 0, none⟩ = some (.slice (some ⟨b, off, none⟩) t.routes.length k) ∧ w'.cell? ⟨w.heap.size + 1, 0, none⟩ = some (.int .i64 r.pre) ∧ w'.cell? ⟨w.heap.size + 1, 1, none⟩ = some (.int .i64 r.bits) ∧ w'.cell? ⟨w.heap.size + 1, 2, none⟩ = some (.int .i64 r.hop)) (first | go_keep | exact HT.out _ hB77 | exact HT.out _ hB72 | exact HT.out _ hB69 | fail)
                  (first
                    | (refine step_appN (by rfl) infR (.tmp 64) (.tmp 68) (by rfl) _ _ (by rfl) (by rfl) wq [] (t.routes.take k) (t.routes.take k) k rfl (by simp; omega) ?_ ?_ (B := wq.heap.size) ?_ (by omega) ?_
                       · first | exact ownE wq.drew _ hsX | exact (ownE wq.drew _ hsX).below (below1 _ _) | exact ownE1 wq.drew _ _ hsX
                       · first | exact (below1 wq _).drew | exact (below2 wq _ _).drew
                       · first | exact (hl1 _ ((below1 wq _).drew)).take hkn | exact (hl1 _ ((below2 wq _ _).drew)).take hkn | exact slr_nil' (List.take_eq_nil_iff.2 (by first | (left; omega) | (right; apply List.eq_nil_of_length_eq_zero; omega))) (by omega)
                       intro A69 c69 w69 hO69 hg69 hB69
                       try (have hr69b := slr_one (enc := rc) (s := 3) (x := r) (B := w69.heap.size) ((Blk.new1 wq.drew (Obj.cells #[] 40) 40 #[.int .i64 r.pre, .int .i64 r.bits, .int .i64 r.hop]).grown hg69 (by intro h; have h2 : some (wq.heap.size + 1) = some wq.heap.size := h; injection h2; omega)) rfl (by have := hg69.size; simp at this ⊢; omega))
                       try (have hr69c := slr_one (enc := rc) (s := 3) (x := r) (B := w69.heap.size) (((Blk.new wq.drew 40 #[.int .i64 r.pre, .int .i64 r.bits, .int .i64 r.hop]).alloc (Obj.cells #[] 40)).grown hg69 (by intro h; have h2 : some wq.heap.size = some (wq.heap.size + 1) := h; injection h2; omega)) rfl (by have := hg69.size; simp at this ⊢; omega)))
                    | (refine step_appN (by rfl) infR (.tmp 69) (.tmp 71) (by rfl) _ _ (by rfl) (by rfl) wq (t.routes.take k) [r] (t.routes.take k ++ [r]) (k + 1) rfl (by simp; omega) ?_ ?_ (B := w69.heap.size + 1) ?_ (by omega) ?_
                       · first | exact hO69 | exact hO69.below (below1 _ _)
                       · first | exact hB69 | exact hB69.alloc hB69.size _
                       · first | exact (slr_one (enc := rc) (s := 3) (x := r) (B := w69.heap.size + 1) (Blk.new w69 40 #[.int .i64 r.pre, .int .i64 r.bits, .int .i64 r.hop]) rfl (by omega)) | exact hr69b.more (by omega) | exact hr69c.more (by omega)
                       intro A72 c72 w72 hO72 hg72 hB72)
                    | (refine step_appN (by rfl) infR (.tmp 72) (.tmp 76) (by rfl) _ _ (by rfl) (by rfl) wq (t.routes.take k ++ [r]) (t.routes.drop k) (t.routes.take k ++ r :: t.routes.drop k) (t.routes.length + 1) (by simp) (by simp; omega) ?_ ?_ (B := wq.heap.size) ?_ (by omega) ?_
                       · exact hO72
                       · exact hB72
                       · first | exact (hl1 _ hB72).drop hkn (by omega) | exact slr_nil' (List.drop_eq_nil_of_le (by omega)) (by omega)
                       intro A77 c77 w77 hO77 hg77 hB77
                       obtain ⟨p0, p1, p2, p3⟩ := HT.out _ hB77
                       have hC77 := (hBC.out.up hbq).up hB77
                       have c0 := hC77.cell 0
                       have y0 := hC77.free 0)
                    | fail)
                all_goals
                  obtain ⟨ws, hws⟩ : ∃ ws, ws = w77.setCell ⟨C, 0, none⟩ (.slice A77 (t.routes.length + 1) c77) := ⟨_, rfl⟩
                  have lq := hbq.size
                  have hSS : Own rc 40 3 ws w2.heap.size (.slice A77 (t.routes.length + 1) c77) (t.routes.take k ++ r :: t.routes.drop k) := by
                    rw [hws]; exact (own_far hO77 (fun q hq => by have := (World.ownsRow.lt hO77 q hq).1; show q ≠ C; omega) _).low (by omega)
                  have hCs : Blk ws C 30 #[.slice A77 (t.routes.length + 1) c77, .slice B2 t.hops.length cp2] := by rw [hws]; exact hC77.put 0 _
                  have hOs : Blk ws (w.heap.size + 1 + 1) 30 #[nl, nl] := by rw [hws]; exact ((hOc.out.up hbq).up hB77).far (by simp; omega) _
                  have hX2s : Own ic 3 1 ws w2.heap.size (.slice B2 t.hops.length cp2) t.hops := by
                    rw [hws]; exact own_far ((hX2.out.below hbq).below hB77) (fun q hq => by have := (HLO.out.2.1 q hq).2; show q ≠ C; omega) _
                  have hbs : Below w.heap.size w ws := by
                    rw [hws]; exact ((h0c.trans (hbq.mono h0c.size)).trans (hB77.mono (h0c.trans (hbq.mono h0c.size)).size)).setCell (by simp; omega) _
                  rw [← hws]
                  clear hws
                  have hadd : addT t r = (⟨t.routes.take k ++ r :: t.routes.drop k, t.hops⟩, true) := by
                    rw [addT_yes HV.out HR.out (by rw [HNEW.out]; simp; omega), HNEW.out]
                  have c0 := hCs.cell 0
                  have c1 := hCs.cell 1
                  have o0 := hOs.cell 0
                  have o1 := hOs.cell 1
                  have y0 := hOs.free 0
                  have y1 := hOs.free 1
                  have HADD := hide hadd
                  clear hadd
                  go_wp2_with fail
                  refine bodyPost_ret (v := .tuple #[.agg #[.slice (A77) (t.routes.length + 1) c77, .slice B2 t.hops.length cp2], .bool true]) (by simp [results, Try.results45, go_sem, o0, o1]) rfl ⟨_, by rw [HADD.out], by rw [HADD.out]; exact ownT_far hSS hX2s (own_types hSS hX2s (by decide)) (by omega) (by omega), (hbs.setCell (by simp; omega) _).setCell (by simp; omega) _⟩
              · go_region_held3 (fun w' => w'.cell? ⟨w.heap.size, 0, none⟩ = some (.slice (some ⟨b, off, none⟩) t.routes.length cap1) ∧ w'.cell? ⟨w.heap.size + 1, 0, none⟩ = some (.int .i64 r.pre) ∧ w'.cell? ⟨w.heap.size + 1, 1, none⟩ = some (.int .i64 r.bits) ∧ w'.cell? ⟨w.heap.size + 1, 2, none⟩ = some (.int .i64 r.hop)) (first | go_keep | exact HT.out _ hB77 | exact HT.out _ hB72 | exact HT.out _ hB69 | fail)
                  (first
                    | (refine step_appN (by rfl) infR (.tmp 64) (.tmp 68) (by rfl) _ _ (by rfl) (by rfl) wq [] (t.routes.take k) (t.routes.take k) k rfl (by simp; omega) ?_ ?_ (B := wq.heap.size) ?_ (by omega) ?_
                       · first | exact ownE wq.drew _ hsX | exact (ownE wq.drew _ hsX).below (below1 _ _) | exact ownE1 wq.drew _ _ hsX
                       · first | exact (below1 wq _).drew | exact (below2 wq _ _).drew
                       · first | exact (hl1 _ ((below1 wq _).drew)).take hkn | exact (hl1 _ ((below2 wq _ _).drew)).take hkn | exact slr_nil' (List.take_eq_nil_iff.2 (by first | (left; omega) | (right; apply List.eq_nil_of_length_eq_zero; omega))) (by omega)
                       intro A69 c69 w69 hO69 hg69 hB69
                       try (have hr69b := slr_one (enc := rc) (s := 3) (x := r) (B := w69.heap.size) ((Blk.new1 wq.drew (Obj.cells #[] 40) 40 #[.int .i64 r.pre, .int .i64 r.bits, .int .i64 r.hop]).grown hg69 (by intro h; have h2 : some (wq.heap.size + 1) = some wq.heap.size := h; injection h2; omega)) rfl (by have := hg69.size; simp at this ⊢; omega))
                       try (have hr69c := slr_one (enc := rc) (s := 3) (x := r) (B := w69.heap.size) (((Blk.new wq.drew 40 #[.int .i64 r.pre, .int .i64 r.bits, .int .i64 r.hop]).alloc (Obj.cells #[] 40)).grown hg69 (by intro h; have h2 : some wq.heap.size = some (wq.heap.size + 1) := h; injection h2; omega)) rfl (by have := hg69.size; simp at this ⊢; omega)))
                    | (refine step_appN (by rfl) infR (.tmp 69) (.tmp 71) (by rfl) _ _ (by rfl) (by rfl) wq (t.routes.take k) [r] (t.routes.take k ++ [r]) (k + 1) rfl (by simp; omega) ?_ ?_ (B := w69.heap.size + 1) ?_ (by omega) ?_
                       · first | exact hO69 | exact hO69.below (below1 _ _)
                       · first | exact hB69 | exact hB69.alloc hB69.size _
                       · first | exact (slr_one (enc := rc) (s := 3) (x := r) (B := w69.heap.size + 1) (Blk.new w69 40 #[.int .i64 r.pre, .int .i64 r.bits, .int .i64 r.hop]) rfl (by omega)) | exact hr69b.more (by omega) | exact hr69c.more (by omega)
                       intro A72 c72 w72 hO72 hg72 hB72)
                    | (refine step_appN (by rfl) infR (.tmp 72) (.tmp 76) (by rfl) _ _ (by rfl) (by rfl) wq (t.routes.take k ++ [r]) (t.routes.drop k) (t.routes.take k ++ r :: t.routes.drop k) (t.routes.length + 1) (by simp) (by simp; omega) ?_ ?_ (B := wq.heap.size) ?_ (by omega) ?_
                       · exact hO72
                       · exact hB72
                       · first | exact (hl1 _ hB72).drop hkn (by omega) | exact slr_nil' (List.drop_eq_nil_of_le (by omega)) (by omega)
                       intro A77 c77 w77 hO77 hg77 hB77
                       obtain ⟨p0, p1, p2, p3⟩ := HT.out _ hB77
                       have hC77 := (hBC.out.up hbq).up hB77
                       have c0 := hC77.cell 0
                       have y0 := hC77.free 0)
                    | fail)
                all_goals
                  obtain ⟨ws, hws⟩ : ∃ ws, ws = w77.setCell ⟨C, 0, none⟩ (.slice A77 (t.routes.length + 1) c77) := ⟨_, rfl⟩
                  have lq := hbq.size
                  have hSS : Own rc 40 3 ws w2.heap.size (.slice A77 (t.routes.length + 1) c77) (t.routes.take k ++ r :: t.routes.drop k) := by
                    rw [hws]; exact (own_far hO77 (fun q hq => by have := (World.ownsRow.lt hO77 q hq).1; show q ≠ C; omega) _).low (by omega)
                  have hCs : Blk ws C 30 #[.slice A77 (t.routes.length + 1) c77, .slice B2 t.hops.length cp2] := by rw [hws]; exact hC77.put 0 _
                  have hOs : Blk ws (w.heap.size + 1 + 1) 30 #[nl, nl] := by rw [hws]; exact ((hOc.out.up hbq).up hB77).far (by simp; omega) _
                  have hX2s : Own ic 3 1 ws w2.heap.size (.slice B2 t.hops.length cp2) t.hops := by
                    rw [hws]; exact own_far ((hX2.out.below hbq).below hB77) (fun q hq => by have := (HLO.out.2.1 q hq).2; show q ≠ C; omega) _
                  have hbs : Below w.heap.size w ws := by
                    rw [hws]; exact ((h0c.trans (hbq.mono h0c.size)).trans (hB77.mono (h0c.trans (hbq.mono h0c.size)).size)).setCell (by simp; omega) _
                  rw [← hws]
                  clear hws
                  have hadd : addT t r = (⟨t.routes.take k ++ r :: t.routes.drop k, t.hops⟩, true) := by
                    rw [addT_yes HV.out HR.out (by rw [HNEW.out]; simp; omega), HNEW.out]
                  have c0 := hCs.cell 0
                  have c1 := hCs.cell 1
                  have o0 := hOs.cell 0
                  have o1 := hOs.cell 1
                  have y0 := hOs.free 0
                  have y1 := hOs.free 1
                  have HADD := hide hadd
                  clear hadd
                  go_wp2_with fail
                  refine bodyPost_ret (v := .tuple #[.agg #[.slice (A77) (t.routes.length + 1) c77, .slice B2 t.hops.length cp2], .bool true]) (by simp [results, Try.results45, go_sem, o0, o1]) rfl ⟨_, by rw [HADD.out], by rw [HADD.out]; exact ownT_far hSS hX2s (own_types hSS hX2s (by decide)) (by omega) (by omega), (hbs.setCell (by simp; omega) _).setCell (by simp; omega) _⟩
          · have hC1 := hBC.out.up hbq
            have c0 := hC1.cell 0
            have c1 := hC1.cell 1
            have o0 := (hOc.out.up hbq).cell 0
            have o1 := (hOc.out.up hbq).cell 1
            have y0 := (hOc.out.up hbq).free 0
            have y1 := (hOc.out.up hbq).free 1
            have hadd : addT t r = (t, false) := addT_full HV.out HR.out (by rw [HNEW.out]; simp; omega)
            have HADD := hide hadd
            have hbs := h0c.trans (hbq.mono h0c.size)
            clear hadd hC1
            go_wp2_with fail
            refine bodyPost_ret (v := .tuple #[.agg #[.slice B1 t.routes.length cp1, .slice B2 t.hops.length cp2], .bool false]) (by simp [results, Try.results45, go_sem, o0, o1]) rfl ⟨_, by rw [HADD.out], by rw [HADD.out]; exact ownT_far (hX1.out.below hbq) (hX2.out.below hbq) HLO.out.2.2 (by omega) (by omega), (hbs.setCell (by simp; omega) _).setCell (by simp; omega) _⟩
    · rw [tb_no hR]
      have HRN := hide hR
      clear hR
      have HNO : Hid (addT t r = (⟨[], []⟩, false)) := hide (addT_no (fun h => HRN.out h.2))
      have o0 := HO2.out.cell 0
      have o1 := HO2.out.cell 1
      have z0 := HO2.out.free 0
      have z1 := HO2.out.free 1
      go_wp2_with fail
      refine bodyPost_ret (v := .tuple #[.agg #[.slice none 0 0, .slice none 0 0], .bool false]) (by simp [results, Try.results45, go_sem, o0, o1]) rfl ⟨_, by rw [HNO.out], by rw [HNO.out]; exact ownT_nil _ _, ?_⟩
      exact (hb02.setCell (by simp; omega) _).setCell (by simp; omega) _
  · rw [tb_no hV]
    have HVN := hide hV
    clear hV
    have HNO : Hid (addT t r = (⟨[], []⟩, false)) := hide (addT_no (fun h => HVN.out h.1))
    have o0 := HO1.out.cell 0
    have o1 := HO1.out.cell 1
    have z0 := HO1.out.free 0
    have z1 := HO1.out.free 1
    go_wp2_with fail
    refine bodyPost_ret (v := .tuple #[.agg #[.slice none 0 0, .slice none 0 0], .bool false]) (by simp [results, Try.results45, go_sem, o0, o1]) rfl ⟨_, by rw [HNO.out], by rw [HNO.out]; exact ownT_nil _ _, ?_⟩
    exact (hb01.setCell (by simp; omega) _).setCell (by simp; omega) _
end Go.Proofs.Ytlkchocjldllgaa
