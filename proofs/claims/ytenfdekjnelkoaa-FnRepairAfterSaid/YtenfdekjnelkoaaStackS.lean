/- RepairStack of the reference. Conditions: at most 1048576 links. -/
import Derived.Test.YtenfdekjnelkoaaStackI
namespace Go.Proofs.Ytenfdekjnelkoaa
open Go.RowKit
set_option maxRecDepth 100000 in
set_option maxHeartbeats 1600000 in
theorem specStack_any (v : Value) (g : Gr) (f k t : Int) (w : World) (hv : GrR w w.heap.size v g) (hm : g.ls.length ≤ 1048576) :
    Calls Try.prog 36 #[v, .int .i64 f, .int .i64 k, .int .i64 t] w fun e w' => ∃ v' S, e = .returned (.tuple #[v', .bool (tb (repL g f k t ≠ []))]) ∧ Own lbc 57 2 w' w.heap.size v' S ∧ RSt g f k t S (repL g f k t ≠ []) ∧ Below w.heap.size w w' := by
  obtain ⟨P, hP⟩ : ∃ P, P = repL g f k t := ⟨_, rfl⟩
  have HP := hide hP
  have HPT := hide (fun h : repL g f k t ≠ [] => repL_pt h)
  have hP8 : P.length ≤ 8 := by rw [hP]; exact repL_len g f k t
  have HRS : Hid (∀ S, RSt g f k t S (P ≠ []) ↔ ((P ≠ [] → P ≠ [] ∧ Gd g (lkOf g k) P 0 S) ∧ (P = [] → ¬ P ≠ [] ∧ S = []))) := hide (fun S => by rw [hP]; exact Iff.rfl)
  rw [← hP] at HPT
  rw [← hP]
  obtain ⟨bv, hbv⟩ : ∃ bv, bv = tb (P ≠ []) := ⟨_, rfl⟩
  rw [← hbv]
  have HBV := hide hbv
  clear hbv hP
  have hvv := hv
  obtain ⟨A, cap, rfl, hc, hr⟩ := hv.form
  obtain ⟨B, hB⟩ : ∃ B, B = w.heap.size := ⟨_, rfl⟩
  obtain ⟨wb, hwb⟩ : ∃ wb, wb = w.alloc (Obj.cells #[.int .i64 g.n, .slice A g.ls.length cap] 25) := ⟨_, rfl⟩
  have hbw : Below w.heap.size w wb := by rw [hwb]; exact below1 _ _
  have HB : Hid (Blk wb B 25 #[.int .i64 g.n, .slice A g.ls.length cap]) := hide (by rw [hwb, hB]; exact Blk.new _ _ _)
  have HV := hide (hvv.up hbw)
  have h1b := below1 wb (Obj.cells #[] 57)
  have hE : Own lbc 57 2 (wb.alloc (.cells #[] 57)) wb.heap.size (.slice (some ⟨B + 1, 0, none⟩) 0 0) [] := by
    have h : wb.heap.size = B + 1 := by rw [hwb, hB]; simp
    rw [← h]; exact ownE wb _ (Nat.le_refl _)
  have hBs : wb.heap.size = B + 1 := by rw [hwb, hB]; simp
  have HE := hide hE
  clear hr hvv hv hE
  go_enter Try.func36, Try.ntmps36
  go_upto_region 2 with fail
  rw [← hwb, ← hB]
  clear hwb hB
  have c0 := (HB.out.up h1b).cell 0
  have c1 := (HB.out.up h1b).cell 1
  go_wp2_with fail
  refine (specPath_any _ g f k t _ (HV.out.up h1b) hm).mono ?_
  rw [← HP.out]
  rintro e w1 ⟨v1, rfl, hO1, hb1⟩
  obtain ⟨A1, cP, rfl, _, _⟩ := hO1.lit
  have hb01 := h1b.trans (hb1.mono h1b.size)
  have HE1 := hide (HE.out.below hb1)
  clear c0 c1 HE
  by_cases hp0 : P = []
  · have e0 : ((P.length : Int) == 0) = true := by rw [hp0]; rfl
    have hbf : bv = false := by rw [HBV.out, tb_no (fun h : P ≠ [] => h hp0)]
    subst hbf
    have HPE : Hid (P = []) := hide hp0
    clear hp0 hO1 hBs
    go_wp2
    go_ret2
    exact ⟨_, [], rfl, HE1.out.low hbw.size, (HRS.out []).2 ⟨fun h => absurd HPE.out h, fun h => ⟨fun h2 => h2 h, rfl⟩⟩, hbw.trans (hb01.mono hbw.size)⟩
  have hpos := List.length_pos_iff.2 hp0
  have e0 : ((P.length : Int) == 0) = false := by rw [beq_eq_false_iff_ne]; omega
  have hbf : bv = true := by rw [HBV.out, tb_yes hp0]
  subst hbf
  have HPN : Hid (P ≠ []) := hide hp0
  obtain ⟨oP, cp1, he, _, _⟩ := hO1.form hpos
  have hA1 : A1 = some ⟨oP, 0, none⟩ := by injection he
  subst hA1
  have hlo : (wb.alloc (Obj.cells #[] 57)).heap.size = B + 2 := by simp [hBs]
  rw [hlo] at hO1
  have HK : Hid (StK wb w1 B oP cP (B + 2) A cap g f k t P) := hide ⟨HB.out, HV.out, hO1, (HPT.out hp0).1, (HPT.out hp0).2⟩
  have HOE : Hid (OutE lbc 57 2 wb w1 w1 (.slice (some ⟨B + 1, 0, none⟩) 0 0) [] (B + 2)) := hide (OutE.start hb01 HE1.out fun q hq => by cases hq; show B + 1 < B + 2; omega)
  clear hO1 hb1 he hp0 HV HB HE1 hb01 h1b hlo hBs
  go_upto_region 6 with fail
  go_loopg [10, 12] (P.length - 1) (fun gg rv av wr => ∃ (i : Nat) (S : List Lb) (A5 : Option Addr) (c5 : Nat), i + 1 + gg = P.length ∧ S.length ≤ i ∧ rv = .slice A5 S.length c5 ∧ av = .int .i64 i ∧ Hid (OutE lbc 57 2 wb w1 wr (.slice A5 S.length c5) S (B + 2)) ∧ Hid (Going g (lkOf g k) P i S))
  case atStart => exact ⟨0, [], _, _, by omega, Nat.le_refl _, rfl, rfl, HOE, hide (going_start _ _ _)⟩
  case round =>
    clear HOE
    obtain ⟨i, S, A5, c5, hi, hSi, rfl, rfl, HO, HGO⟩ := hrel
    by_cases hlt : 0 < gk
    · obtain ⟨a, ha⟩ := get_some (show i < P.length by omega)
      have HAi := hide ha
      clear ha
      obtain ⟨gko, hgko⟩ : ∃ z, z = gk := ⟨_, rfl⟩
      subst hgko
      obtain ⟨wo, hwo⟩ : ∃ wo, wo = wr := ⟨_, rfl⟩
      subst hwo
      have m0 : decide ((i : Int) + 1 < (P.length : Int)) = true := decide_eq_true (by omega)
      go_wp2
      clear m0
      go_loopg [13] (P.length - 1 - i) (fun gg ev wr => ∃ (e0 : Nat), e0 = i + gg ∧ e0 + 1 ≤ P.length ∧ ev = .int .i64 e0 ∧ Hid (OutE lbc 57 2 wb w1 wr (.slice A5 S.length c5) S (B + 2)) ∧ Hid (∀ j c, e0 < j → P[j]? = some c → ¬ Sf g (lkOf g k) a c))
      case atStart => exact ⟨P.length - 1, by omega, by omega, congrArg (Value.int .i64) (by omega), HO, hide fun j c h hc => by have := get_lt hc; omega⟩
      case round =>
        clear HO
        obtain ⟨e0, he0, hel, rfl, HO, HNO⟩ := hrel
        have he1 : e0 ≤ i + gk := by omega
        have he2 : i + gk ≤ e0 := by omega
        clear he0
        have c0 := HK.out.c0 HO.out
        have c1 := HK.out.c1 HO.out
        have x0 := HK.out.at HO.out HAi.out
        have hcap0 := HK.out.hp.caps
        by_cases hg0 : 0 < gk
        · have hie : i < e0 := by omega
          have n0 : decide ((i : Int) < (e0 : Int)) = true := decide_eq_true (by omega)
          have n1 : decide (i < e0) = true := decide_eq_true hie
          obtain ⟨b, hb⟩ := get_some (show e0 < P.length by omega)
          have HBe := hide hb
          have x1 := HK.out.at HO.out hb
          have e1 := fun y => wext_cell wr y c0
          have e2 := fun y => wext_cell wr y c1
          have e3 := fun y => wext_cell wr y x0
          have e4 := fun y => wext_cell wr y x1
          have HSC := hide (fun y => l21Safe_k _ g a b k (wext wr y) ((HK.out.gr HO.out).up (wext_below wr y)) HK.out.hk.1.1 (HK.out.nd HAi.out) (HK.out.nd HBe.out) HK.out.hk.1.2.1)
          clear hb x1 c0 c1 x0
          go_upto_region 8 with fail
          by_cases hsf : Sf g (lkOf g k) a b
          · rw [tb_yes hsf] at HSC
            have HSF := hide hsf
            clear hsf
            refine region_q (by kernel_rfl) (by kernel_rfl) ?_
            repeat (go_big_quiet_step ((first | (go_at_call 72; with_reducible exact q_call (HSC.out _)))))
            refine wpQuiet_nil ?_
            intro wx hbx
            have HO := hide (HO.out.below hbx)
            clear e1 e2 e3 e4 HSC
            obtain ⟨S1, hS1⟩ : ∃ S1 : List Lb, S1 = S ++ [⟨1, b⟩] := ⟨_, rfl⟩
            have hS1l : S1.length ≤ S.length + 1 := by rw [hS1]; simp
            have HS1 := hide hS1
            have HGO1 : Hid (Going g (lkOf g k) P e0 S1) := hide (by rw [HS1.out]; exact HGO.out.node hie HAi.out HBe.out HSF.out HNO.out)
            have x1 := HK.out.at HO.out HBe.out
            clear hS1
            go_upto_region 11 with fail
            go_wp2_with (at_builtin; refine wpList_appO (by rfl) infLb (.tmp 54) (.tmp 60) (by rfl) _ _ (by rfl) (by rfl) wb w1 (B + 2) S [⟨1, b⟩] S1 S1.length HS1.out rfl (HO.out.below (below1 _ _)) (slr_lab _ ⟨1, b⟩) (by omega) ?_; intro Ay capy w4 hO4)
            have HO4 := hide hO4
            clear hO4 HO
            go_roundg (P.length - 1 - e0)
            case measure => omega
            case rel => exact ⟨e0, S1, _, _, by omega, by omega, rfl, rfl, HO4, HGO1⟩
          · rw [tb_no hsf] at HSC
            have HSF := hide hsf
            clear hsf
            refine region_q (by kernel_rfl) (by kernel_rfl) ?_
            repeat (go_big_quiet_step ((first | (go_at_call 72; with_reducible exact q_call (HSC.out _)))))
            refine wpQuiet_nil ?_
            intro wx hbx
            have HO1 := hide (HO.out.below hbx)
            clear e1 e2 e3 e4 HSC HO
            go_wp2
            go_roundg (gk - 1)
            case measure => omega
            case rel => exact ⟨e0 - 1, by omega, by omega, by go_num, HO1, hide fun j c h hc => by
                by_cases hje : j = e0
                · subst hje; rw [HBe.out] at hc; cases hc; exact HSF.out
                · exact HNO.out j c (by omega) hc⟩
        · have hie : e0 = i := by omega
          subst hie
          obtain ⟨b, hb⟩ := get_some (show e0 + 1 < P.length by omega)
          have HBe := hide hb
          have hw1 : IntKind.i64.wrap ((e0 : Int) + 1) = (e0 : Int) + 1 := by rw [IntKind.wrap_i64]; omega
          have hb1 := get_lt hb
          have hb0 : e0 < P.length := by omega
          have hb2 : (e0 : Int) + 1 < (P.length : Int) := by omega
          have hb3 : 0 ≤ (e0 : Int) + 1 := by omega
          obtain ⟨q, hq⟩ : ∃ q, q = lnk g a b := ⟨_, rfl⟩
          obtain ⟨S1, hS1⟩ : ∃ S1 : List Lb, S1 = S ++ [⟨2, q⟩] := ⟨_, rfl⟩
          have hS1l : S1.length ≤ S.length + 1 := by rw [hS1]; simp
          have HS1 := hide hS1
          have HGO1 : Hid (Going g (lkOf g k) P (e0 + 1) S1) := hide (by rw [HS1.out, hq]; exact HGO.out.link HAi.out HBe.out HNO.out)
          have HCN := hide (fun W (hW : GrR W W.heap.size (.agg #[.int .i64 g.n, .slice A g.ls.length cap]) g) => l1Link_any _ g a b W hW hm)
          rw [← hq] at HCN
          have HCL : Hid (∀ (W : World) (u : Value) (T : List Lb), OutE lbc 57 2 wb w1 W u T (B + 2) → W.cell? ⟨B, 0, none⟩ = some (.int .i64 g.n) ∧ W.cell? ⟨B, 1, none⟩ = some (.slice A g.ls.length cap) ∧ W.cell? ⟨oP, e0, none⟩ = some (.int .i64 a) ∧ W.cell? ⟨oP, e0 + 1, none⟩ = some (.int .i64 b)) :=
            hide fun W u T h => ⟨HK.out.c0 h, HK.out.c1 h, HK.out.at h HAi.out, HK.out.at h HBe.out⟩
          clear hS1 hq hb c0 c1 x0
          go_upto_region 8 with fail
          refine region_q (by kernel_rfl) (by kernel_rfl) ?_
          repeat (go_big_quiet_step ((first | (fail))))
          refine wpQuiet_nil ?_
          intro wx hbx
          have HO1 := hide (HO.out.below hbx)
          clear HO
          obtain ⟨c0, c1, x0, x1⟩ := HCL.out _ _ _ HO1.out
          go_upto_region 13 with fail
          have HOd := hide (HO1.out.below ((Below.refl _ _).drew))
          go_region_held3 (fun X => X.cell? ⟨B, 0, none⟩ = some (.int .i64 g.n) ∧ X.cell? ⟨B, 1, none⟩ = some (.slice A g.ls.length cap) ∧ X.cell? ⟨oP, e0, none⟩ = some (.int .i64 a) ∧ X.cell? ⟨oP, e0 + 1, none⟩ = some (.int .i64 b))
            (first | go_keep | exact HCL.out _ _ _ HO4.out | exact HCL.out _ _ _ (HO4.out.below (below1 _ _)) | exact HCL.out _ _ _ HO5.out | fail)
            (first
              | (go_at_call 73; refine (HCN.out _ (HK.out.gr HOd.out)).mono ?_
                 rintro e w4 ⟨rfl, hb4⟩
                 have HO4 := hide (HOd.out.below hb4))
              | (refine step_appO (by rfl) infLb (.tmp 64) (.tmp 76) (by rfl) _ _ (by rfl) (by rfl) wb w1 (B + 2) S [⟨2, q⟩] S1 S1.length HS1.out rfl (HO4.out.below (below1 _ _)) (slr_lab w4 ⟨2, q⟩) (by omega) ?_
                 intro A6 c6 w5 hO5
                 have HO5 := hide hO5)
              | fail)
          all_goals
            go_wp2
            go_roundg (gko - 1)
            case measure => omega
            case rel => exact ⟨e0 + 1, S1, _, _, by omega, by omega, rfl, by go_num, HO5, HGO1⟩
    · have HGE : Hid (RSt g f k t S (P ≠ [])) := hide ((HRS.out S).2 ⟨fun h => ⟨h, HGO.out.stop (by omega)⟩, fun h => absurd h HPN.out⟩)
      go_wp2
      go_ret2
      exact ⟨_, S, rfl, HO.out.o.low hbw.size, HGE.out, hbw.trans (HO.out.bw.mono hbw.size)⟩
end Go.Proofs.Ytenfdekjnelkoaa
