/- l1Link, l2Hops and l2Path of the reference. Conditions: the graph is valid, or at most 1048576 links. -/
import Derived.Test.YtbhkjeicogjfbaaPth
import Derived.Test.YtbhkjeicogjfbaaOut
namespace Go.Proofs.Ytbhkjeicogjfbaa
open Go.RowKit

theorem minmax (a b : Int) : (a ≤ b → min a b = a ∧ max a b = b) ∧ (b ≤ a → min a b = b ∧ max a b = a) := by omega
set_option maxRecDepth 100000 in
set_option maxHeartbeats 1600000 in
theorem l1Link_any (v : Value) (g : Gr) (a b : Int) (w : World) (hv : GrR w w.heap.size v g) (hn : g.ls.length ≤ 1048576) :
    Calls Try.prog 105 #[v, .int .i64 a, .int .i64 b] w fun e w' => e = .returned (.int .i64 (lnk g a b)) ∧ Below w.heap.size w w' := by
  obtain ⟨A, cap, rfl, hc, hr⟩ := hv.form
  obtain ⟨R, hR⟩ : ∃ R, R = lnk g a b := ⟨_, rfl⟩
  rw [← hR]
  have HR := hide hR
  obtain ⟨wb, hwb⟩ : ∃ wb, wb = w.alloc (Obj.cells #[.int .i64 g.n, .slice A g.ls.length cap] 25) := ⟨_, rfl⟩
  have hbw : Below w.heap.size w wb := by rw [hwb]; exact below1 _ _
  have HB : Hid (Blk wb w.heap.size 25 #[.int .i64 g.n, .slice A g.ls.length cap]) := hide (by rw [hwb]; exact Blk.new _ _ _)
  clear hR hv
  go_enter Try.func105, Try.ntmps105
  go_wp2
  rw [← hwb]
  clear hwb
  go_loopg [7] (g.ls.length) (fun gg iv wr => ∃ k : Nat, k + gg = g.ls.length ∧ iv = .int .i64 k ∧ Below wb.heap.size wb wr ∧ Hid (∀ (i : Nat) (m : Lk), i < k → g.ls[i]? = some m → isL a b m = false))
  case atStart => exact ⟨0, by omega, rfl, Below.refl _ _, hide fun i m h => by omega⟩
  case round =>
    obtain ⟨k, hk, rfl, hbe, HV⟩ := hrel
    have hbf := hbw.trans (hbe.mono hbw.size)
    have c0 := (HB.out.up hbe).cell 0
    have c1 := (HB.out.up hbe).cell 1
    by_cases hlt : k < g.ls.length
    · obtain ⟨b0, off, rfl, hb, hcell⟩ := hr (by omega)
      obtain ⟨l, hck⟩ := get_some hlt
      obtain ⟨g1, g2, g3⟩ := linkAt (hcell.keep (w' := wr) fun p hp => hbf.cell (by omega)) hck
      have HC := hide hck
      obtain ⟨la, lb, lc'⟩ := l
      simp only at g1 g2 g3
      clear hck g3
      rcases Int.lt_trichotomy a b with hab | hab | hab
      · by_cases p1 : la = a
        · have e1 : (la == a) = true := by rw [beq_iff_eq]; exact p1
          by_cases p2 : lb = b
          · have e2 : (lb == b) = true := by rw [beq_iff_eq]; exact p2
            have HIS : Hid (isL a b ⟨la, lb, lc'⟩ = true) := hide (by
              show (decide (la = min a b) && decide (lb = max a b)) = true
              rw [decide_eq_true (by omega), decide_eq_true (by omega)]; rfl)
            have HRK : Hid (R = (k : Int)) := hide (by rw [HR.out]; exact lnk_at HC.out HIS.out fun i m hi hm => HV.out i m hi hm)
            clear p1 p2
            go_wp2
            go_ret
            exact ⟨ret_i64 HRK.out.symm, hbf⟩
          · have e2 : (lb == b) = false := by rw [beq_eq_false_iff_ne]; exact p2
            have HIS : Hid (isL a b ⟨la, lb, lc'⟩ = false) := hide (by
              show (decide (la = min a b) && decide (lb = max a b)) = false
              rw [decide_eq_false (p := lb = max a b) (by omega), Bool.and_false])
            clear p1 p2
            go_wp2
            go_roundg (gk - 1)
            case measure => omega
            case rel =>
              refine ⟨k + 1, by omega, by go_num, hbe, hide fun i m hi hm => ?_⟩
              rcases Nat.lt_succ_iff_lt_or_eq.1 hi with h | h
              · exact HV.out i m h hm
              · subst h; rw [HC.out] at hm; cases hm; exact HIS.out
        · have e1 : (la == a) = false := by rw [beq_eq_false_iff_ne]; exact p1
          have HIS : Hid (isL a b ⟨la, lb, lc'⟩ = false) := hide (by
            show (decide (la = min a b) && decide (lb = max a b)) = false
            rw [decide_eq_false (p := la = min a b) (by omega), Bool.false_and])
          clear p1
          go_wp2
          go_roundg (gk - 1)
          case measure => omega
          case rel =>
            refine ⟨k + 1, by omega, by go_num, hbe, hide fun i m hi hm => ?_⟩
            rcases Nat.lt_succ_iff_lt_or_eq.1 hi with h | h
            · exact HV.out i m h hm
            · subst h; rw [HC.out] at hm; cases hm; exact HIS.out
      · have hba : b = a := hab.symm
        subst hba
        by_cases p1 : la = b
        · have e1 : (la == b) = true := by rw [beq_iff_eq]; exact p1
          by_cases p2 : lb = b
          · have e2 : (lb == b) = true := by rw [beq_iff_eq]; exact p2
            have HIS : Hid (isL b b ⟨la, lb, lc'⟩ = true) := hide (by
              show (decide (la = min b b) && decide (lb = max b b)) = true
              rw [decide_eq_true (by omega), decide_eq_true (by omega)]; rfl)
            have HRK : Hid (R = (k : Int)) := hide (by rw [HR.out]; exact lnk_at HC.out HIS.out fun i m hi hm => HV.out i m hi hm)
            clear p1 p2
            go_wp2
            go_ret
            exact ⟨ret_i64 HRK.out.symm, hbf⟩
          · have e2 : (lb == b) = false := by rw [beq_eq_false_iff_ne]; exact p2
            have HIS : Hid (isL b b ⟨la, lb, lc'⟩ = false) := hide (by
              show (decide (la = min b b) && decide (lb = max b b)) = false
              rw [decide_eq_false (p := lb = max b b) (by omega), Bool.and_false])
            clear p1 p2
            go_wp2
            go_roundg (gk - 1)
            case measure => omega
            case rel =>
              refine ⟨k + 1, by omega, by go_num, hbe, hide fun i m hi hm => ?_⟩
              rcases Nat.lt_succ_iff_lt_or_eq.1 hi with h | h
              · exact HV.out i m h hm
              · subst h; rw [HC.out] at hm; cases hm; exact HIS.out
        · have e1 : (la == b) = false := by rw [beq_eq_false_iff_ne]; exact p1
          have HIS : Hid (isL b b ⟨la, lb, lc'⟩ = false) := hide (by
            show (decide (la = min b b) && decide (lb = max b b)) = false
            rw [decide_eq_false (p := la = min b b) (by omega), Bool.false_and])
          clear p1
          go_wp2
          go_roundg (gk - 1)
          case measure => omega
          case rel =>
            refine ⟨k + 1, by omega, by go_num, hbe, hide fun i m hi hm => ?_⟩
            rcases Nat.lt_succ_iff_lt_or_eq.1 hi with h | h
            · exact HV.out i m h hm
            · subst h; rw [HC.out] at hm; cases hm; exact HIS.out
      · by_cases p1 : la = b
        · have e1 : (la == b) = true := by rw [beq_iff_eq]; exact p1
          by_cases p2 : lb = a
          · have e2 : (lb == a) = true := by rw [beq_iff_eq]; exact p2
            have HIS : Hid (isL a b ⟨la, lb, lc'⟩ = true) := hide (by
              show (decide (la = min a b) && decide (lb = max a b)) = true
              rw [decide_eq_true (by omega), decide_eq_true (by omega)]; rfl)
            have HRK : Hid (R = (k : Int)) := hide (by rw [HR.out]; exact lnk_at HC.out HIS.out fun i m hi hm => HV.out i m hi hm)
            clear p1 p2
            go_wp2
            go_ret
            exact ⟨ret_i64 HRK.out.symm, hbf⟩
          · have e2 : (lb == a) = false := by rw [beq_eq_false_iff_ne]; exact p2
            have HIS : Hid (isL a b ⟨la, lb, lc'⟩ = false) := hide (by
              show (decide (la = min a b) && decide (lb = max a b)) = false
              rw [decide_eq_false (p := lb = max a b) (by omega), Bool.and_false])
            clear p1 p2
            go_wp2
            go_roundg (gk - 1)
            case measure => omega
            case rel =>
              refine ⟨k + 1, by omega, by go_num, hbe, hide fun i m hi hm => ?_⟩
              rcases Nat.lt_succ_iff_lt_or_eq.1 hi with h | h
              · exact HV.out i m h hm
              · subst h; rw [HC.out] at hm; cases hm; exact HIS.out
        · have e1 : (la == b) = false := by rw [beq_eq_false_iff_ne]; exact p1
          have HIS : Hid (isL a b ⟨la, lb, lc'⟩ = false) := hide (by
            show (decide (la = min a b) && decide (lb = max a b)) = false
            rw [decide_eq_false (p := la = min a b) (by omega), Bool.false_and])
          clear p1
          go_wp2
          go_roundg (gk - 1)
          case measure => omega
          case rel =>
            refine ⟨k + 1, by omega, by go_num, hbe, hide fun i m hi hm => ?_⟩
            rcases Nat.lt_succ_iff_lt_or_eq.1 hi with h | h
            · exact HV.out i m h hm
            · subst h; rw [HC.out] at hm; cases hm; exact HIS.out
    · have HRK : Hid (R = -1) := hide (by rw [HR.out]; exact lnk_none fun i m hm => HV.out i m (by have := get_lt hm; omega) hm)
      go_wp2
      go_ret
      exact ⟨ret_i64 HRK.out.symm, hbf⟩
set_option maxRecDepth 100000 in
set_option maxHeartbeats 1600000 in
theorem l2Hops_any (v : Value) (g : Gr) (f t : Int) (w : World) (hv : GrR w w.heap.size v g) (hg : GV g) (hf : Nd g f) (ht : Nd g t) :
    Calls Try.prog 104 #[v, .int .i64 f, .int .i64 t] w fun e w' => ∃ v', e = .returned v' ∧ Own ic 3 1 w' w.heap.size v' (hopL g t f) ∧ Below w.heap.size w w' := by
  have hvv := hv
  obtain ⟨A, cap, rfl, hc, hr⟩ := hv.form
  have hlen := hg.len
  have hn := hg.n
  have HG := hide hg
  have HNF := hide hf
  have HNT := hide ht
  obtain ⟨wb, hwb⟩ : ∃ wb, wb = w.alloc (Obj.cells #[.int .i64 g.n, .slice A g.ls.length cap] 25) := ⟨_, rfl⟩
  have hbw : Below w.heap.size w wb := by rw [hwb]; exact below1 _ _
  have hwbs : wb.heap.size = w.heap.size + 1 := by rw [hwb]; simp
  have HB : Hid (Blk wb w.heap.size 25 #[.int .i64 g.n, .slice A g.ls.length cap]) := hide (by rw [hwb]; exact Blk.new _ _ _)
  have HV := hide (hvv.up hbw)
  obtain ⟨nf, rfl⟩ := Int.eq_ofNat_of_zero_le hf.1
  have hfl := hf.2
  have h1b := below1 wb (Obj.cells #[] 3)
  have hE : Own ic 3 1 (wb.alloc (.cells #[] 3)) wb.heap.size (.slice (some ⟨w.heap.size + 1, 0, none⟩) 0 0) [] := by rw [← hwbs]; exact ownE wb _ (Nat.le_refl _)
  have HB0 := hide (HB.out.up h1b)
  have HE := hide hE
  have c0 := HB0.out.cell 0
  have c1 := HB0.out.cell 1
  obtain ⟨H, hH⟩ : ∃ H, H = hopL g t nf := ⟨_, rfl⟩
  have HH := hide hH
  rw [← hH]
  clear hE hv hg hf ht hvv hH
  go_enter Try.func104, Try.ntmps104
  go_upto_region 2 with fail
  rw [← hwb]
  clear hwb
  go_wp2_with fail
  refine (distS_any _ g t _ (HV.out.up h1b) HG.out HNT.out).mono ?_
  obtain ⟨N, hN⟩ : ∃ N, N = g.n.toNat := ⟨_, rfl⟩
  have HN := hide hN
  rw [← hN]
  rintro e w1 ⟨o, kd, rfl, hO1, hb1⟩
  have hs1 : w.heap.size + 2 ≤ (wb.alloc (Obj.cells #[] 3)).heap.size := by simp; omega
  have hb01 := h1b.trans (hb1.mono h1b.size)
  have HT : Hid (OutI wb w1 w1 (.slice (some ⟨w.heap.size + 1, 0, none⟩) 0 0) [] (w.heap.size + 2)) := hide (OutE.start hb01 (HE.out.below hb1) fun q hq => by cases hq; show w.heap.size + 1 < w.heap.size + 2; omega)
  have HD := hide (hO1.low hs1)
  clear HE HB0 c0 c1 hb01 hb1 h1b hO1 hs1
  obtain ⟨q0, hq0⟩ : ∃ q, q = D g t nf := ⟨_, rfl⟩
  have HQ := hide hq0
  have hNa : (N : Int) ≤ g.n := by omega
  have hNb : g.n ≤ (N : Int) := by omega
  clear hq0 hN
  go_wp2
  go_loopg [7, 9] (N) (fun gg rv iv wr => ∃ (k : Nat) (A5 : Option Addr) (c5 : Nat), k + gg = N ∧ rv = .slice A5 (selTo (Hp g t nf) k).length c5 ∧ iv = .int .i64 k ∧ Hid (OutI wb w1 wr (.slice A5 (selTo (Hp g t nf) k).length c5) (selTo (Hp g t nf) k) (w.heap.size + 2)))
  case atStart => exact ⟨0, _, _, by omega, rfl, rfl, HT⟩
  case round =>
    clear HT
    obtain ⟨k, A5, c5, hk, rfl, rfl, HO⟩ := hrel
    obtain ⟨L, hL⟩ : ∃ L, L = selTo (Hp g t nf) k := ⟨_, rfl⟩
    rw [← hL] at HO
    rw [← hL]
    have HL := hide hL
    clear hL
    have c0 := (HB.out.up HO.out.bw).cell 0
    have c1 := (HB.out.up HO.out.bw).cell 1
    by_cases hlt : (k : Int) < g.n
    · have hLl : L.length ≤ 8 := by rw [HL.out]; exact selTo_le _ _ (by omega)
      have hkn : Nd g (k : Int) := ⟨by omega, hlt⟩
      obtain ⟨p, hp⟩ : ∃ p, p = D g t (k : Int) := ⟨_, rfl⟩
      have hdk : (distL g t)[k]? = some p := by rw [hp]; exact D_at hlt
      have hdf : (distL g t)[nf]? = some q0 := by rw [HQ.out]; exact D_at hfl
      have hpb : -1 ≤ p ∧ p ≤ 140 := by rw [hp]; exact ⟨D_ge HG.out HNT.out hkn, by have := D_few HG.out HNT.out hkn; omega⟩
      obtain ⟨hpb1, hpb2⟩ := hpb
      have HDK := hide hdk
      have HDF := hide hdf
      have HP := hide hp
      have HKN := hide hkn
      clear hdk hdf hp hkn
      go_wp2_with fail
      refine (l1Link_any _ g nf (k : Int) _ (HV.out.up HO.out.bw) (by omega)).mono ?_
      rintro e w2 ⟨rfl, hb2⟩
      have HO2 := hide (HO.out.below hb2)
      clear HO hb2 c0 c1
      have k0 := (HB.out.up HO2.out.bw).cell 0
      have k1 := (HB.out.up HO2.out.bw).cell 1
      have xm := own_int (HO2.out.own HD.out (Nat.le_refl _)) HDK.out
      have xf := own_int (HO2.out.own HD.out (Nat.le_refl _)) HDF.out
      have e1 := fun y => wext_cell w2 y xm
      have e2 := fun y => wext_cell w2 y xf
      have e3 := fun y => wext_cell w2 y k0
      have e4 := fun y => wext_cell w2 y k1
      clear xm xf k0 k1
      rcases lnk_cases g nf (k : Int) with ⟨hl1, hno⟩ | ⟨j, l, hlk, hlj, his⟩
      · rw [hl1]
        have HNx : Hid (selTo (Hp g t nf) (k + 1) = L) := hide (by
          rw [selTo_no (fun h => ?_), HL.out]
          have h1 := (nbr_lnk HG.out).1 (hp_nbr h)
          omega)
        clear hl1 hno
        go_upto_region 7 with fail
        refine region_q (by kernel_rfl) (by kernel_rfl) ?_
        repeat (go_big_quiet_step ((first | (fail))))
        refine wpQuiet_nil ?_
        intro wx hbx
        have HO3 := hide (HO2.out.below hbx)
        clear e1 e2 e3 e4 HO2
        go_wp2
        go_roundg (gk - 1)
        case measure => omega
        case rel => exact ⟨k + 1, _, c5, by omega, by rw [HNx.out], by go_num, by rw [HNx.out]; exact HO3⟩
      · rw [hlk]
        have hjn := (isL_iff (HG.out.lv (List.mem_of_getElem? hlj)).2.2.1).1 his
        obtain ⟨b0, off, rfl, hb0, hcell⟩ := hr (by have := get_lt hlj; omega)
        have hjl := get_lt hlj
        have hlv := (HG.out.lv (List.mem_of_getElem? hlj)).2.2.2
        obtain ⟨lc1, lc2⟩ := hlv
        have hbwr := hbw.trans (HO2.out.bw.mono hbw.size)
        obtain ⟨_, _, g3⟩ := linkAt (hcell.keep (w' := w2) fun p hp => hbwr.cell (by omega)) hlj
        have HHP : Hid (Hp g t nf (k : Int) ↔ 0 ≤ p ∧ p + l.c = q0) := hide (by rw [hp_iff HG.out hlj hjn, ← HP.out, ← HQ.out])
        have hw1 : IntKind.i64.wrap (p + l.c) = p + l.c := by rw [IntKind.wrap_i64]; omega
        obtain ⟨lcost, hlcost⟩ : ∃ z, z = l.c := ⟨_, rfl⟩
        rw [← hlcost] at g3 HHP hw1 lc1 lc2
        have e0 := fun y => wext_cell w2 y g3
        have hj0 : decide (0 ≤ (j : Int)) = true := decide_eq_true (by omega)
        clear hlk hlj his hjn hcell hlcost hr hbwr g3
        by_cases hp0 : 0 ≤ p
        · have n0 : decide (0 ≤ p) = true := decide_eq_true hp0
          by_cases hfit : p + lcost = q0
          · have e9 : (p + lcost == q0) = true := by rw [beq_iff_eq]; exact hfit
            have HNx : Hid (selTo (Hp g t nf) (k + 1) = L ++ [(k : Int)]) := hide (by rw [selTo_yes (HHP.out.2 ⟨hp0, hfit⟩), HL.out])
            clear hfit
            go_upto_region 7 with fail
            refine region_q (by kernel_rfl) (by kernel_rfl) ?_
            repeat (go_big_quiet_step ((first | (fail))))
            refine wpQuiet_nil ?_
            intro wx hbx
            have HO3 := hide (HO2.out.below hbx)
            clear e0 e1 e2 e3 e4 e9 n0 hj0 HO2
            go_upto_region 5 with (at_builtin; refine wpList_appO (by rfl) infI (.tmp 52) (.tmp 54) (by rfl) _ _ (by rfl) (by rfl) wb w1 (w.heap.size + 2) L [(k : Int)] (selTo (Hp g t nf) (k + 1)) (selTo (Hp g t nf) (k + 1)).length HNx.out rfl (HO3.out.below (below1 _ _)) (slr_lit _ _) (by rw [HNx.out]; simp; omega) ?_; intro Ay capy w4 hO4)
            have HO4 := hide hO4
            clear hO4 HO3
            go_wp2
            go_roundg (gk - 1)
            case measure => omega
            case rel => exact ⟨k + 1, _, _, by omega, rfl, by go_num, HO4⟩
          · have e9 : (p + lcost == q0) = false := by rw [beq_eq_false_iff_ne]; exact hfit
            have HNx : Hid (selTo (Hp g t nf) (k + 1) = L) := hide (by rw [selTo_no (fun h => hfit (HHP.out.1 h).2), HL.out])
            clear hfit
            go_upto_region 7 with fail
            refine region_q (by kernel_rfl) (by kernel_rfl) ?_
            repeat (go_big_quiet_step ((first | (fail))))
            refine wpQuiet_nil ?_
            intro wx hbx
            clear e0 e9 n0 hj0
            have HO3 := hide (HO2.out.below hbx)
            clear e1 e2 e3 e4 HO2
            go_wp2
            go_roundg (gk - 1)
            case measure => omega
            case rel => exact ⟨k + 1, _, c5, by omega, by rw [HNx.out], by go_num, by rw [HNx.out]; exact HO3⟩
        · have n0 : decide (0 ≤ p) = false := decide_eq_false hp0
          have HNx : Hid (selTo (Hp g t nf) (k + 1) = L) := hide (by rw [selTo_no (fun h => hp0 (HHP.out.1 h).1), HL.out])
          go_upto_region 7 with fail
          refine region_q (by kernel_rfl) (by kernel_rfl) ?_
          repeat (go_big_quiet_step ((first | (fail))))
          refine wpQuiet_nil ?_
          intro wx hbx
          clear e0 n0 hj0
          have HO3 := hide (HO2.out.below hbx)
          clear e1 e2 e3 e4 HO2
          go_wp2
          go_roundg (gk - 1)
          case measure => omega
          case rel => exact ⟨k + 1, _, c5, by omega, by rw [HNx.out], by go_num, by rw [HNx.out]; exact HO3⟩
    · have HHL : Hid (H = L) := hide (by rw [HH.out, HL.out, hopL, show g.n.toNat = k from by omega])
      go_wp2
      go_ret
      exact ⟨_, rfl, by rw [HHL.out]; exact HO.out.o.low hbw.size, hbw.trans (HO.out.bw.mono hbw.size)⟩
end Go.Proofs.Ytbhkjeicogjfbaa
