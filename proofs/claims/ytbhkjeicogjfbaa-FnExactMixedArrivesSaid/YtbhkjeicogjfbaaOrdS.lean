/- UpdateOrder of the reference: the right order; l21Ok. Conditions: at most 1048576 links. -/
import Derived.Test.YtbhkjeicogjfbaaOrdI
namespace Go.Proofs.Ytbhkjeicogjfbaa
open Go.RowKit
set_option maxHeartbeats 800000 in
theorem l21Ok_any (v : Value) (g : Gr) (f k t : Int) (w : World) (hv : GrR w w.heap.size v g) (hm : g.ls.length ≤ 1048576) :
    Calls Try.prog 63 #[v, .int .i64 f, .int .i64 k, .int .i64 t] w fun e w' => e = .returned (.bool (tb (Ok g f k ∧ Nd g t))) ∧ Below w.heap.size w w' := by
  obtain ⟨R, hR⟩ : ∃ R, R = (Ok g f k ∧ Nd g t) := ⟨_, rfl⟩
  have HR : Hid (R ↔ (GV g ∧ Ix g k) ∧ Nd g f ∧ Nd g t) := hide (by rw [hR]; exact ⟨fun h => ⟨⟨h.1.1, h.1.2.1⟩, h.1.2.2, h.2⟩, fun h => ⟨⟨h.1.1, h.1.2, h.2.1⟩, h.2.2⟩⟩)
  rw [← hR]
  clear hR
  have hvv := hv
  obtain ⟨A, cap, rfl, hc, hr⟩ := hv.form
  obtain ⟨wb, hwb⟩ : ∃ wb, wb = w.alloc (Obj.cells #[.int .i64 g.n, .slice A g.ls.length cap] 25) := ⟨_, rfl⟩
  have hbw : Below w.heap.size w wb := by rw [hwb]; exact below1 _ _
  have HB : Hid (Blk wb w.heap.size 25 #[.int .i64 g.n, .slice A g.ls.length cap]) := hide (by rw [hwb]; exact Blk.new _ _ _)
  have HV := hide (hvv.up hbw)
  clear hr hvv hv
  go_enter Try.func63, Try.ntmps63
  go_wp2_with fail
  rw [← hwb]
  clear hwb
  refine (l1Index_any _ g _ _ HV.out hm).mono ?_
  rintro e w1 ⟨rfl, hb1⟩
  have HB1 := hide (HB.out.up hb1)
  have HV1 := hide (HV.out.up hb1)
  have hb01 := hbw.trans (hb1.mono hbw.size)
  clear HB HV hb1 hbw
  have c0 := HB1.out.cell 0
  have c1 := HB1.out.cell 1
  by_cases hA : GV g ∧ Ix g k
  · rw [tb_yes hA]
    have HA := hide hA
    clear hA
    go_wp2_with fail
    refine (l1Node_any _ g _ _ HV1.out HA.out.1).mono ?_
    rintro e w2 ⟨rfl, hb2⟩
    have HB2 := hide (HB1.out.up hb2)
    have HV2 := hide (HV1.out.up hb2)
    have hb02 := hb01.trans (hb2.mono hb01.size)
    clear HB1 HV1 hb2 hb01 c0 c1
    have c0 := HB2.out.cell 0
    have c1 := HB2.out.cell 1
    by_cases hA2 : Nd g f
    · rw [tb_yes hA2]
      have HA2 := hide hA2
      clear hA2
      go_wp2_with fail
      refine (l1Node_any _ g _ _ HV2.out HA.out.1).mono ?_
      rintro e w3 ⟨rfl, hb3⟩
      go_wp2
      go_ret
      exact ⟨ret_bool (tb_iff ⟨fun h => HR.out.2 ⟨HA.out, HA2.out, h⟩, fun h => (HR.out.1 h).2.2⟩), hb02.trans (hb3.mono hb02.size)⟩
    · rw [tb_no hA2]
      have HA2 := hide hA2
      clear hA2
      go_wp2
      go_ret
      exact ⟨ret_bool (tb_no fun h => HA2.out (HR.out.1 h).2.1).symm, hb02⟩
  · rw [tb_no hA]
    have HA := hide hA
    clear hA
    go_wp2
    go_ret
    exact ⟨ret_bool (tb_no fun h => HA.out (HR.out.1 h).1).symm, hb01⟩
set_option maxRecDepth 100000 in
set_option maxHeartbeats 3200000 in
theorem specOrder_any (v : Value) (g : Gr) (k t : Int) (w : World) (hv : GrR w w.heap.size v g) (hm : g.ls.length ≤ 1048576) :
    Calls Try.prog 18 #[v, .int .i64 k, .int .i64 t] w fun e w' => ∃ v', e = .returned v' ∧ Own ic 3 1 w' w.heap.size v' (ordX g k t) ∧ Below w.heap.size w w' := by
  obtain ⟨R, hR⟩ : ∃ R, R = ordX g k t := ⟨_, rfl⟩
  have HR := hide hR
  rw [← hR]
  clear hR
  have HKE : Hid ((Ok g 0 k ∧ Nd g t) ↔ Ok g t k) := hide ⟨fun h => ⟨h.1.1, h.1.2.1, h.2⟩, fun h => ⟨⟨h.1, h.2.1, ⟨by omega, by have := h.1.n; omega⟩⟩, h.2.2⟩⟩
  have hvv := hv
  obtain ⟨A, cap, rfl, hc, hr⟩ := hv.form
  obtain ⟨wb, hwb⟩ : ∃ wb, wb = w.alloc (Obj.cells #[.int .i64 g.n, .slice A g.ls.length cap] 25) := ⟨_, rfl⟩
  have hbw : Below w.heap.size w wb := by rw [hwb]; exact below1 _ _
  have HB : Hid (Blk wb w.heap.size 25 #[.int .i64 g.n, .slice A g.ls.length cap]) := hide (by rw [hwb]; exact Blk.new _ _ _)
  have HV := hide (hvv.up hbw)
  clear hr hvv hv
  have hwbs : wb.heap.size = w.heap.size + 1 := by rw [hwb]; simp
  have hE : Own ic 3 1 (wb.alloc (.cells #[] 3)) wb.heap.size (.slice (some ⟨w.heap.size + 1, 0, none⟩) 0 0) [] := by rw [← hwbs]; exact ownE wb _ (Nat.le_refl _)
  have h1b := below1 wb (Obj.cells #[] 3)
  have HV0 := hide (HV.out.up h1b)
  have HB0 := hide (HB.out.up h1b)
  obtain ⟨w0, hw0⟩ : ∃ w0, w0 = wb.alloc (.cells #[] 3) := ⟨_, rfl⟩
  rw [← hw0] at hE h1b HV0 HB0
  have HE := hide hE
  clear hE
  go_enter Try.func18, Try.ntmps18
  go_upto_region 2 with fail
  rw [← hwb, ← hw0]
  clear hwb hw0
  have c0 := HB0.out.cell 0
  have c1 := HB0.out.cell 1
  go_wp2_with fail
  refine (l21Ok_any _ g 0 k t _ HV0.out hm).mono ?_
  rintro e w1 ⟨rfl, hb1⟩
  have HE1 := hide (HE.out.below hb1)
  have HV1 := hide (HV0.out.up hb1)
  have HB1 := hide (HB0.out.up hb1)
  have hb11 := h1b.trans (hb1.mono h1b.size)
  clear HE HV0 HB0 hb1 c0 c1
  have c0 := HB1.out.cell 0
  have c1 := HB1.out.cell 1
  by_cases hK : Ok g 0 k ∧ Nd g t
  · rw [tb_yes hK]
    have HK := hide (HKE.out.1 hK)
    clear hK
    go_wp2_with fail
    refine (distS_any _ g t _ HV1.out HK.out.1 HK.out.2.2).mono ?_
    obtain ⟨N, hN⟩ : ∃ N, N = g.n.toNat := ⟨_, rfl⟩
    rw [← hN]
    rintro e w2 ⟨o, k2, rfl, hO2, hb2⟩
    have hn1 := HK.out.1.n.1
    have hn2 := HK.out.1.n.2
    have hNa : (N : Int) ≤ g.n := by omega
    have hNb : g.n ≤ (N : Int) := by omega
    have HN := hide hN
    have hs1 := h1b.size
    have HT : Hid (TwoI wb w2 (.slice (some ⟨w.heap.size + 1, 0, none⟩) 0 0) (.slice (some ⟨o, 0, none⟩) N k2) [] (distL g t)) := hide
      ⟨hb11.trans (hb2.mono hb11.size), HE1.out.below hb2, hO2.low hb11.size, fun q hq hq2 => by
        have h1 := (World.ownsRow.lt hO2 q hq2).1
        have h2 := (World.ownsRow.lt HE1.out q hq).2
        omega⟩
    have HB2 := hide (HB1.out.up hb2)
    clear c0 c1 HE1 HV1 HB1 hb11 h1b hb2 hO2 hN
    have c0 := HB2.out.cell 0
    have HF0 : Hid (OrdP g (lkOf g k) t (20 * g.n) 0 []) := hide (ordP_start HK.out.1 HK.out.2.2 (by omega))
    go_upto_region 6 with fail
    clear c0 HB2
    go_wp2
    go_loopg [7, 9] (20 * N) (fun gg rv fv wr => ∃ (L : List Int) (A5 : Option Addr) (c5 : Nat) (F : Int), rv = .slice A5 L.length c5 ∧ gg ≤ 20 * N ∧ F = (gg : Nat) ∧ fv = .int .i64 F ∧ Hid (TwoI wb wr (.slice A5 L.length c5) (.slice (some ⟨o, 0, none⟩) N k2) L (distL g t)) ∧ Hid (OrdP g (lkOf g k) t F 0 L))
    case atStart => exact ⟨[], _, _, 20 * g.n, rfl, by omega, by omega, congrArg (Value.int .i64) (by omega), HT, HF0⟩
    case round =>
      clear HT HF0
      obtain ⟨L, A5, c5, F, rfl, hg20, hF, rfl, HT, HP⟩ := hrel
      have HF := hide hF
      by_cases h0 : 0 < gk
      · have hF0 : 0 < F := by omega
        have hF1 : F ≤ 200 := by omega
        clear hF
        obtain ⟨fa, rfl⟩ : ∃ fa, gk = fa + 1 := ⟨gk - 1, by omega⟩
        obtain ⟨wo, hwo⟩ : ∃ wo, wo = wr := ⟨_, rfl⟩
        subst hwo
        go_wp2
        go_loopg [7, 10] (N) (fun gg rv jv wr => ∃ (j : Nat) (L : List Int) (A5 : Option Addr) (c5 : Nat), j + gg = N ∧ rv = .slice A5 L.length c5 ∧ jv = .int .i64 j ∧ Hid (TwoI wb wr (.slice A5 L.length c5) (.slice (some ⟨o, 0, none⟩) N k2) L (distL g t)) ∧ Hid (OrdP g (lkOf g k) t F (j : Int) L))
        case atStart => exact ⟨0, L, _, _, by omega, rfl, rfl, HT, HP⟩
        case round =>
          clear HT HP
          obtain ⟨j, L, A5, c5, hj, rfl, rfl, HT, HP⟩ := hrel
          have c0 := (HB.out.up HT.out.bw).cell 0
          have c1 := (HB.out.up HT.out.bw).cell 1
          have hL8 := HP.out.len HK.out.1
          by_cases hlt : (j : Int) < g.n
          · have hjN : j < N := by omega
            obtain ⟨p, hp⟩ : ∃ p, p = D g t (j : Int) := ⟨_, rfl⟩
            have x1 := own_int HT.out.p (show (distL g t)[j]? = some p by rw [hp]; exact D_at hlt)
            have HNj : Hid (Nd g (j : Int)) := hide ⟨by omega, hlt⟩
            by_cases hd : p = F
            · have e1 : (p == F) = true := by rw [beq_iff_eq]; exact hd
              have HD : Hid (D g t (j : Int) = F) := hide (by rw [← hp]; exact hd)
              clear hd hp
              go_wp2_with fail
              refine (l2Used_k _ g (j : Int) t k _ (HV.out.up HT.out.bw) HK.out.1 HNj.out HK.out.2.2 HK.out.2.1).mono ?_
              rintro e w3 ⟨rfl, hb3⟩
              have HT3 := hide (HT.out.below hb3)
              clear HT hb3 c0 c1 x1 e1
              by_cases hu : Us g (lkOf g k) (j : Int) t
              · rw [tb_yes hu]
                have HP1 := hide (HP.out.yes HD.out HNj.out hu)
                obtain ⟨L', hL'⟩ : ∃ L', L' = L ++ [(j : Int)] := ⟨_, rfl⟩
                rw [← hL'] at HP1
                have HL' := hide hL'
                have hL8' := HP1.out.len HK.out.1
                clear hu hL'
                go_upto_region 10 with (at_builtin; refine wpList_appT (by rfl) infI (.tmp 47) (.tmp 49) (by rfl) _ _ _ (by rfl) (by rfl) wb L [(j : Int)] L' _ L'.length HL'.out rfl (HT3.out.below (below1 _ _)) (slr_lit _ _) (by omega) ?_; intro Ay capy w4 hT4)
                have HT4 := hide hT4
                clear hT4 HT3
                go_wp2
                go_roundg (gk - 1)
                case measure => omega
                case rel => exact ⟨j + 1, _, _, _, by omega, rfl, by go_num, HT4, HP1⟩
              · rw [tb_no hu]
                have HP1 := hide (HP.out.no fun h => hu h.2)
                clear hu
                go_wp2
                go_roundg (gk - 1)
                case measure => omega
                case rel => exact ⟨j + 1, L, _, _, by omega, rfl, by go_num, HT3, HP1⟩
            · have e1 : (p == F) = false := by rw [beq_eq_false_iff_ne]; exact hd
              have HP1 := hide (HP.out.no fun h => hd (by rw [hp]; exact h.1))
              clear hd hp
              go_wp2
              go_roundg (gk - 1)
              case measure => omega
              case rel => exact ⟨j + 1, L, _, _, by omega, rfl, by go_num, HT, HP1⟩
          · have HP1 : Hid (OrdP g (lkOf g k) t (F - 1) 0 L) := hide (by
              have h := HP.out
              rw [show (j : Int) = g.n from by omega] at h
              exact h.next)
            go_wp2
            go_roundg fa
            case measure => omega
            case rel => exact ⟨L, _, _, F - 1, rfl, by omega, by have := HF.out; omega, by go_num, HT, HP1⟩
      · have h0' : gk = 0 := by omega
        have hF0 : F = 0 := by omega
        subst hF0
        clear hF
        have HRL : Hid (R = L) := hide (by
          rw [HR.out, ordX_is HK.out (HP.out.all HK.out.1 (List.mem_of_getElem? (lk_at HK.out.2.1)) HK.out.2.2)])
        go_wp2
        go_ret
        exact ⟨_, rfl, by rw [HRL.out]; exact HT.out.o.low (by omega), hbw.trans (HT.out.bw.mono hbw.size)⟩
  · rw [tb_no hK]
    have HRn : Hid (R = []) := hide (by rw [HR.out, ordX_no fun h => hK (HKE.out.2 h)])
    clear hK
    go_wp2
    go_ret
    exact ⟨_, rfl, by rw [HRn.out]; exact HE1.out.low (by omega), hbw.trans (hb11.mono hbw.size)⟩
end Go.Proofs.Ytbhkjeicogjfbaa
