/- RepairSafe and RepairNeeded of the reference: the selected nodes, in order. Conditions: at most 1048576 links. -/
import Derived.Test.YtgaipicebjklaaaSafeW
namespace Go.Proofs.Ytgaipicebjklaaa
open Go.RowKit

/-- The list, if p holds. -/
noncomputable def okL (p : Prop) (l : List Int) : List Int := open Classical in if p then l else []
theorem okL_yes {p : Prop} (h : p) (l : List Int) : okL p l = l := if_pos h
theorem okL_no {p : Prop} (h : ¬ p) (l : List Int) : okL p l = [] := if_neg h
/-- Nodes, link and from are in order. -/
def Ok (g : Gr) (f k : Int) : Prop := GV g ∧ Ix g k ∧ Nd g f
noncomputable def safeL (g : Gr) (f k : Int) : List Int := okL (Ok g f k) (selTo (Sf g (lkOf g k) f) g.n.toNat)
noncomputable def needL (g : Gr) (f k : Int) : List Int := okL (Ok g f k) (selTo (Us g (lkOf g k) f) g.n.toNat)
theorem selTo_le (p : Int → Prop) (k : Nat) (h : k ≤ 8) : (selTo p k).length ≤ 8 := Nat.le_trans (selTo_len p k) h
set_option maxRecDepth 100000 in
set_option maxHeartbeats 1600000 in
theorem specSafe_any (v : Value) (g : Gr) (f k : Int) (w : World) (hv : GrR w w.heap.size v g) (hm : g.ls.length ≤ 1048576) :
    Calls Try.prog 26 #[v, .int .i64 f, .int .i64 k] w fun e w' => ∃ v', e = .returned v' ∧ Own ic 3 1 w' w.heap.size v' (safeL g f k) ∧ Below w.heap.size w w' := by
  have hvv := hv
  obtain ⟨A, cap, rfl, hc, hr⟩ := hv.form
  obtain ⟨wb, hwb⟩ : ∃ wb, wb = w.alloc (Obj.cells #[.int .i64 g.n, .slice A g.ls.length cap] 25) := ⟨_, rfl⟩
  have hbw : Below w.heap.size w wb := by rw [hwb]; exact below1 _ _
  have HB : Hid (Blk wb w.heap.size 25 #[.int .i64 g.n, .slice A g.ls.length cap]) := hide (by rw [hwb]; exact Blk.new _ _ _)
  have hwbs : wb.heap.size = w.heap.size + 1 := by rw [hwb]; simp
  have HV := hide (hvv.up hbw)
  have HRU : Hid (safeL g f k = okL (Ok g f k) (selTo (Sf g (lkOf g k) f) g.n.toNat)) := hide rfl
  obtain ⟨R, hR⟩ : ∃ R, R = safeL g f k := ⟨_, rfl⟩
  rw [← hR] at HRU
  rw [← hR]
  have HCN := hide (fun (h : Ok g f k) (n : Int) (hn : Nd g n) W (hW : GrR W W.heap.size (.agg #[.int .i64 g.n, .slice A g.ls.length cap]) g) => l21Safe_k _ g f n k W hW h.1 h.2.2 hn h.2.1)
  obtain ⟨P, hP⟩ : ∃ P, P = Sf g (lkOf g k) f := ⟨_, rfl⟩
  rw [← hP] at HRU HCN
  clear hR hP hvv hv hr
  go_enter Try.func26, Try.ntmps26
  go_wp2_with fail
  rw [← hwb]
  clear hwb
  go_loopg [7, 8] (g.n.toNat) (fun gg rv iv wr => ∃ (j : Nat) (A5 : Option Addr) (c5 : Nat), j + gg = g.n.toNat ∧ rv = .slice A5 (selTo P j).length c5 ∧ iv = .int .i64 j ∧ Below wb.heap.size wb wr ∧ Hid (0 < j → Ok g f k) ∧ Hid (Own ic 3 1 wr wb.heap.size (.slice A5 (selTo P j).length c5) (selTo P j)))
  case atStart => exact ⟨0, _, _, by omega, rfl, rfl, below1 _ _, hide fun h => by omega, hide (by rw [← hwbs]; exact ownE wb _ (Nat.le_refl _))⟩
  case round =>
    obtain ⟨j, A5, c5, hj, rfl, rfl, hbe, HJ, HO⟩ := hrel
    have HB0 := hide (HB.out.up hbe)
    have HV0 := hide (HV.out.up hbe)
    have hsz := hbe.size
    have c0 := HB0.out.cell 0
    have c1 := HB0.out.cell 1
    obtain ⟨L, hL⟩ : ∃ L, L = selTo P j := ⟨_, rfl⟩
    have HL := hide hL
    rw [← hL] at HO
    rw [← hL]
    clear hL
    by_cases hlt : (j : Int) < g.n
    · go_wp2_with fail
      refine (l1Index_any _ g _ _ HV0.out hm).mono ?_
      rintro e w1 ⟨rfl, hb1⟩
      have HB1 := hide (HB0.out.up hb1)
      have HV1 := hide (HV0.out.up hb1)
      have HO1 := hide (HO.out.below hb1)
      have hbe1 := hbe.trans (hb1.mono hsz)
      clear HB0 HV0 HO hb1 c0 c1
      have c0 := HB1.out.cell 0
      have c1 := HB1.out.cell 1
      by_cases hA : GV g ∧ Ix g k
      · rw [tb_yes hA]
        have HA := hide hA
        obtain ⟨hn1, hn2⟩ := hA.1.n
        clear hA
        go_wp2_with fail
        refine (l1Node_any _ g _ _ HV1.out HA.out.1).mono ?_
        rintro e w2 ⟨rfl, hb2⟩
        have HB2 := hide (HB1.out.up hb2)
        have HV2 := hide (HV1.out.up hb2)
        have HO2 := hide (HO1.out.below hb2)
        have hbe2 := hbe1.trans (hb2.mono hbe1.size)
        clear HB1 HV1 HO1 hb2 c0 c1 hbe1
        have c0 := HB2.out.cell 0
        have c1 := HB2.out.cell 1
        by_cases hN : Nd g f
        · rw [tb_yes hN]
          have HK : Hid (Ok g f k) := hide ⟨HA.out.1, HA.out.2, hN⟩
          clear hN
          go_wp2_with fail
          refine (HCN.out HK.out (j : Int) ⟨by omega, hlt⟩ _ HV2.out).mono ?_
          rintro e w3 ⟨rfl, hb3⟩
          have HO3 := hide (HO2.out.below hb3)
          have hbe3 := hbe2.trans (hb3.mono hbe2.size)
          clear HB2 HV2 HO2 hb3 c0 c1 hbe2
          by_cases hQ : P (j : Int)
          · rw [tb_yes hQ]
            have HN : Hid (selTo P (j + 1) = L ++ [(j : Int)]) := hide (by rw [selTo_yes hQ, HL.out])
            have HNl : Hid (L.length + 1 ≤ 8) := hide (by
              have h1 := selTo_le P (j + 1) (by omega)
              rw [HN.out] at h1
              simpa using h1)
            clear hQ
            go_upto_region 4 with (at_builtin; refine wpList_appN (by rfl) infI (.tmp 31) (.tmp 33) (by rfl) _ _ (by rfl) (by rfl) wb L [(j : Int)] (selTo P (j + 1)) (selTo P (j + 1)).length HN.out rfl (HO3.out.below (below1 _ _)) (hbe3.trans ((below1 _ _).mono hbe3.size)) (slr_lit _ _) (by rw [HN.out]; have := HNl.out; simp; omega) ?_; intro Ay capy w4 hO4 hg4 hb4)
            have HO4 := hide hO4
            clear hO4 hg4 HO3
            go_wp2
            go_roundg (gk - 1)
            case measure => omega
            case rel => exact ⟨j + 1, _, _, by omega, rfl, by go_num, hb4, hide fun _ => HK.out, HO4⟩
          · rw [tb_no hQ]
            have HN : Hid (selTo P (j + 1) = L) := hide (by rw [selTo_no hQ, HL.out])
            clear hQ
            go_wp2
            go_roundg (gk - 1)
            case measure => omega
            case rel => exact ⟨j + 1, _, c5, by omega, by rw [HN.out], by go_num, hbe3, hide fun _ => HK.out, by rw [HN.out]; exact HO3⟩
        · rw [tb_no hN]
          have HNK : Hid (¬ Ok g f k) := hide fun h => hN h.2.2
          clear hN
          have h0 : j = 0 := Nat.eq_zero_of_not_pos fun h => HNK.out (HJ.out h)
          subst h0
          have hR : R = L := by rw [HRU.out, okL_no HNK.out, HL.out]; rfl
          have HF := hide (HO2.out.low (base' := w.heap.size) (by omega))
          rw [← hR] at HF
          have hbf := hbw.trans (hbe2.mono hbw.size)
          rw [← hR]
          clear hR
          go_wp2
          go_ret
          exact ⟨_, rfl, HF.out, hbf⟩
      · rw [tb_no hA]
        have HNK : Hid (¬ Ok g f k) := hide fun h => hA ⟨h.1, h.2.1⟩
        clear hA
        have h0 : j = 0 := Nat.eq_zero_of_not_pos fun h => HNK.out (HJ.out h)
        subst h0
        have hR : R = L := by rw [HRU.out, okL_no HNK.out, HL.out]; rfl
        have HF := hide (HO1.out.low (base' := w.heap.size) (by omega))
        rw [← hR] at HF
        have hbf := hbw.trans (hbe1.mono hbw.size)
        rw [← hR]
        clear hR
        go_wp2
        go_ret
        exact ⟨_, rfl, HF.out, hbf⟩
    · have hjn : j = g.n.toNat := by omega
      have hR : R = L := by
        rw [HRU.out, HL.out, hjn]
        by_cases hk : Ok g f k
        · rw [okL_yes hk]
        · have h0 : g.n.toNat = 0 := Nat.eq_zero_of_not_pos fun h => hk (HJ.out (by omega))
          rw [okL_no hk, h0]
          rfl
      have HF := hide (HO.out.low (base' := w.heap.size) (by omega))
      rw [← hR] at HF
      have hbf := hbw.trans (hbe.mono hbw.size)
      rw [← hR]
      clear hR hjn
      go_wp2
      go_ret
      exact ⟨_, rfl, HF.out, hbf⟩
set_option maxRecDepth 100000 in
set_option maxHeartbeats 1600000 in
theorem specNeed_any (v : Value) (g : Gr) (f k : Int) (w : World) (hv : GrR w w.heap.size v g) (hm : g.ls.length ≤ 1048576) :
    Calls Try.prog 15 #[v, .int .i64 f, .int .i64 k] w fun e w' => ∃ v', e = .returned v' ∧ Own ic 3 1 w' w.heap.size v' (needL g f k) ∧ Below w.heap.size w w' := by
  have hvv := hv
  obtain ⟨A, cap, rfl, hc, hr⟩ := hv.form
  obtain ⟨wb, hwb⟩ : ∃ wb, wb = w.alloc (Obj.cells #[.int .i64 g.n, .slice A g.ls.length cap] 25) := ⟨_, rfl⟩
  have hbw : Below w.heap.size w wb := by rw [hwb]; exact below1 _ _
  have HB : Hid (Blk wb w.heap.size 25 #[.int .i64 g.n, .slice A g.ls.length cap]) := hide (by rw [hwb]; exact Blk.new _ _ _)
  have hwbs : wb.heap.size = w.heap.size + 1 := by rw [hwb]; simp
  have HV := hide (hvv.up hbw)
  have HRU : Hid (needL g f k = okL (Ok g f k) (selTo (Us g (lkOf g k) f) g.n.toNat)) := hide rfl
  obtain ⟨R, hR⟩ : ∃ R, R = needL g f k := ⟨_, rfl⟩
  rw [← hR] at HRU
  rw [← hR]
  have HCN := hide (fun (h : Ok g f k) (n : Int) (hn : Nd g n) W (hW : GrR W W.heap.size (.agg #[.int .i64 g.n, .slice A g.ls.length cap]) g) => l2Used_k _ g f n k W hW h.1 h.2.2 hn h.2.1)
  obtain ⟨P, hP⟩ : ∃ P, P = Us g (lkOf g k) f := ⟨_, rfl⟩
  rw [← hP] at HRU HCN
  clear hR hP hvv hv hr
  go_enter Try.func15, Try.ntmps15
  go_wp2_with fail
  rw [← hwb]
  clear hwb
  go_loopg [7, 8] (g.n.toNat) (fun gg rv iv wr => ∃ (j : Nat) (A5 : Option Addr) (c5 : Nat), j + gg = g.n.toNat ∧ rv = .slice A5 (selTo P j).length c5 ∧ iv = .int .i64 j ∧ Below wb.heap.size wb wr ∧ Hid (0 < j → Ok g f k) ∧ Hid (Own ic 3 1 wr wb.heap.size (.slice A5 (selTo P j).length c5) (selTo P j)))
  case atStart => exact ⟨0, _, _, by omega, rfl, rfl, below1 _ _, hide fun h => by omega, hide (by rw [← hwbs]; exact ownE wb _ (Nat.le_refl _))⟩
  case round =>
    obtain ⟨j, A5, c5, hj, rfl, rfl, hbe, HJ, HO⟩ := hrel
    have HB0 := hide (HB.out.up hbe)
    have HV0 := hide (HV.out.up hbe)
    have hsz := hbe.size
    have c0 := HB0.out.cell 0
    have c1 := HB0.out.cell 1
    obtain ⟨L, hL⟩ : ∃ L, L = selTo P j := ⟨_, rfl⟩
    have HL := hide hL
    rw [← hL] at HO
    rw [← hL]
    clear hL
    by_cases hlt : (j : Int) < g.n
    · go_wp2_with fail
      refine (l1Index_any _ g _ _ HV0.out hm).mono ?_
      rintro e w1 ⟨rfl, hb1⟩
      have HB1 := hide (HB0.out.up hb1)
      have HV1 := hide (HV0.out.up hb1)
      have HO1 := hide (HO.out.below hb1)
      have hbe1 := hbe.trans (hb1.mono hsz)
      clear HB0 HV0 HO hb1 c0 c1
      have c0 := HB1.out.cell 0
      have c1 := HB1.out.cell 1
      by_cases hA : GV g ∧ Ix g k
      · rw [tb_yes hA]
        have HA := hide hA
        obtain ⟨hn1, hn2⟩ := hA.1.n
        clear hA
        go_wp2_with fail
        refine (l1Node_any _ g _ _ HV1.out HA.out.1).mono ?_
        rintro e w2 ⟨rfl, hb2⟩
        have HB2 := hide (HB1.out.up hb2)
        have HV2 := hide (HV1.out.up hb2)
        have HO2 := hide (HO1.out.below hb2)
        have hbe2 := hbe1.trans (hb2.mono hbe1.size)
        clear HB1 HV1 HO1 hb2 c0 c1 hbe1
        have c0 := HB2.out.cell 0
        have c1 := HB2.out.cell 1
        by_cases hN : Nd g f
        · rw [tb_yes hN]
          have HK : Hid (Ok g f k) := hide ⟨HA.out.1, HA.out.2, hN⟩
          clear hN
          go_wp2_with fail
          refine (HCN.out HK.out (j : Int) ⟨by omega, hlt⟩ _ HV2.out).mono ?_
          rintro e w3 ⟨rfl, hb3⟩
          have HO3 := hide (HO2.out.below hb3)
          have hbe3 := hbe2.trans (hb3.mono hbe2.size)
          clear HB2 HV2 HO2 hb3 c0 c1 hbe2
          by_cases hQ : P (j : Int)
          · rw [tb_yes hQ]
            have HN : Hid (selTo P (j + 1) = L ++ [(j : Int)]) := hide (by rw [selTo_yes hQ, HL.out])
            have HNl : Hid (L.length + 1 ≤ 8) := hide (by
              have h1 := selTo_le P (j + 1) (by omega)
              rw [HN.out] at h1
              simpa using h1)
            clear hQ
            go_upto_region 4 with (at_builtin; refine wpList_appN (by rfl) infI (.tmp 31) (.tmp 33) (by rfl) _ _ (by rfl) (by rfl) wb L [(j : Int)] (selTo P (j + 1)) (selTo P (j + 1)).length HN.out rfl (HO3.out.below (below1 _ _)) (hbe3.trans ((below1 _ _).mono hbe3.size)) (slr_lit _ _) (by rw [HN.out]; have := HNl.out; simp; omega) ?_; intro Ay capy w4 hO4 hg4 hb4)
            have HO4 := hide hO4
            clear hO4 hg4 HO3
            go_wp2
            go_roundg (gk - 1)
            case measure => omega
            case rel => exact ⟨j + 1, _, _, by omega, rfl, by go_num, hb4, hide fun _ => HK.out, HO4⟩
          · rw [tb_no hQ]
            have HN : Hid (selTo P (j + 1) = L) := hide (by rw [selTo_no hQ, HL.out])
            clear hQ
            go_wp2
            go_roundg (gk - 1)
            case measure => omega
            case rel => exact ⟨j + 1, _, c5, by omega, by rw [HN.out], by go_num, hbe3, hide fun _ => HK.out, by rw [HN.out]; exact HO3⟩
        · rw [tb_no hN]
          have HNK : Hid (¬ Ok g f k) := hide fun h => hN h.2.2
          clear hN
          have h0 : j = 0 := Nat.eq_zero_of_not_pos fun h => HNK.out (HJ.out h)
          subst h0
          have hR : R = L := by rw [HRU.out, okL_no HNK.out, HL.out]; rfl
          have HF := hide (HO2.out.low (base' := w.heap.size) (by omega))
          rw [← hR] at HF
          have hbf := hbw.trans (hbe2.mono hbw.size)
          rw [← hR]
          clear hR
          go_wp2
          go_ret
          exact ⟨_, rfl, HF.out, hbf⟩
      · rw [tb_no hA]
        have HNK : Hid (¬ Ok g f k) := hide fun h => hA ⟨h.1, h.2.1⟩
        clear hA
        have h0 : j = 0 := Nat.eq_zero_of_not_pos fun h => HNK.out (HJ.out h)
        subst h0
        have hR : R = L := by rw [HRU.out, okL_no HNK.out, HL.out]; rfl
        have HF := hide (HO1.out.low (base' := w.heap.size) (by omega))
        rw [← hR] at HF
        have hbf := hbw.trans (hbe1.mono hbw.size)
        rw [← hR]
        clear hR
        go_wp2
        go_ret
        exact ⟨_, rfl, HF.out, hbf⟩
    · have hjn : j = g.n.toNat := by omega
      have hR : R = L := by
        rw [HRU.out, HL.out, hjn]
        by_cases hk : Ok g f k
        · rw [okL_yes hk]
        · have h0 : g.n.toNat = 0 := Nat.eq_zero_of_not_pos fun h => hk (HJ.out (by omega))
          rw [okL_no hk, h0]
          rfl
      have HF := hide (HO.out.low (base' := w.heap.size) (by omega))
      rw [← hR] at HF
      have hbf := hbw.trans (hbe.mono hbw.size)
      rw [← hR]
      clear hR hjn
      go_wp2
      go_ret
      exact ⟨_, rfl, HF.out, hbf⟩
end Go.Proofs.Ytgaipicebjklaaa
