/- RepairStack of the program and of the reference. Conditions: at most 1048576 links. -/
import Derived.Test.YtbhkjeicogjfbaaPathS
import Derived.Test.YtbhkjeicogjfbaaLb
import Derived.Test.YtbhkjeicogjfbaaSelI
namespace Go.Proofs.Ytbhkjeicogjfbaa
open Go.RowKit

/-- The place k is a path's node. -/
theorem path_nd {g : Gr} {k : Nat} {t f : Int} {P : List Int} (hg : GV g) (ht : Nd g t) (h : Pt (Wo g k) t f P) {i : Nat} {a : Int} (ha : P[i]? = some a) : Nd g a :=
  wo_nd.1 ((h.tail ha).reach (wo_gv hg k) (wo_nd.2 ht)).2
theorem step_appO {P : Program} {t e : TypeId} {α : Type} {enc : α → List Value} {s B : Nat} {w : World} {ops : Array Oper} {o : Oper} {a : Act} {K : Act → World → Prop} {Q : Exit → Act → World → Prop} {E : Prop} (hg : o.guard = none)
    (I : SlInf P t e enc s) (x y : Operand) (ho : o.op = .call { callee := .builtin .append, args := #[x, y], argTypes := #[t, t] }) (v u : Value) (hx : a.eval x = v) (hy : a.eval y = u) (w0 W2 : World) (lo : Nat) (l m l' : List α) (N : Nat) (hl : l' = l ++ m) (hN : l'.length = N)
    (h : OutE enc e s w0 W2 w v l lo) (hm : SlR enc s w B u m) (hn : N ≤ 2097152)
    (hK : ∀ A cap w', OutE enc e s w0 W2 w' (.slice A N cap) l' lo → K (a.put o.dst (.slice A N cap)) w') : if Region.wanted o (yielded ops a.tmps) = true then Oper.wp P o a w K Q else E := by
  subst hl
  rw [List.length_append] at hN
  subst hN
  refine step_app hg I x y ho v u hx hy w0.heap.size B l m h.o hm hn h.bw.size fun A cap w' h3 h4 h5 => hK A cap w' ⟨h.bw.grown h4 h.bw.size fun q hq => (World.ownsRow.lt h.o q hq).1, h3, fun q hq => ?_, fun k h1 h2 => ?_, Nat.le_trans h.sz h4.size⟩
  · rcases h5 with h5 | h5
    · rw [h5] at hq; exact h.gap q hq
    · rw [h5] at hq
      injection hq with hq
      exact .inr (by rw [← hq]; exact h.sz)
  · refine (h4.block k (Nat.lt_of_lt_of_le h2 h.sz) fun he => ?_).trans (h.keep k h1 h2)
    have := h.gap k he.symm
    omega
/-- The loops' facts: the box, the path, the node numbers. -/
structure StK (wb W2 : World) (B oP cP : Nat) (lo : Nat) (A : Option Addr) (cap : Nat) (g : Gr) (f k t : Int) (P : List Int) : Prop where
  hb : Blk wb B 25 #[.int .i64 g.n, .slice A g.ls.length cap]
  hv : GrR wb wb.heap.size (.agg #[.int .i64 g.n, .slice A g.ls.length cap]) g
  hp : Own ic 3 1 W2 lo (.slice (some ⟨oP, 0, none⟩) P.length cP) P
  hk : Ok g f k ∧ Nd g t
  pt : Pt (Wo g k.toNat) t f P
section
variable {wb W2 : World} {B oP cP lo : Nat} {A : Option Addr} {cap : Nat} {g : Gr} {f k t : Int} {P : List Int} {W : World} {v : Value} {S : List Lb}
theorem StK.at (h : StK wb W2 B oP cP lo A cap g f k t P) (ho : OutE lbc 92 2 wb W2 W v S lo) {i : Nat} {a : Int} (ha : P[i]? = some a) : W.cell? ⟨oP, i, none⟩ = some (.int .i64 a) := own_int (ho.own h.hp (Nat.le_refl _)) ha
theorem StK.nd (h : StK wb W2 B oP cP lo A cap g f k t P) {i : Nat} {a : Int} (ha : P[i]? = some a) : Nd g a := path_nd h.hk.1.1 h.hk.2 h.pt ha
theorem StK.c0 (h : StK wb W2 B oP cP lo A cap g f k t P) (ho : OutE lbc 92 2 wb W2 W v S lo) : W.cell? ⟨B, 0, none⟩ = some (.int .i64 g.n) := (h.hb.up ho.bw).cell 0
theorem StK.c1 (h : StK wb W2 B oP cP lo A cap g f k t P) (ho : OutE lbc 92 2 wb W2 W v S lo) : W.cell? ⟨B, 1, none⟩ = some (.slice A g.ls.length cap) := (h.hb.up ho.bw).cell 1
theorem StK.gr (h : StK wb W2 B oP cP lo A cap g f k t P) (ho : OutE lbc 92 2 wb W2 W v S lo) : GrR W W.heap.size (.agg #[.int .i64 g.n, .slice A g.ls.length cap]) g := h.hv.up ho.bw
end
set_option maxRecDepth 100000 in
set_option maxHeartbeats 1600000 in
theorem repairStack_any (v : Value) (g : Gr) (f k t : Int) (w : World) (hv : GrR w w.heap.size v g) (hm : g.ls.length ≤ 1048576) :
    Calls Try.prog 49 #[v, .int .i64 f, .int .i64 k, .int .i64 t] w fun e w' => ∃ v' S, e = .returned (.tuple #[v', .bool (tb (repL g f k t ≠ []))]) ∧ Own lbc 92 2 w' w.heap.size v' S ∧ RSt g f k t S (repL g f k t ≠ []) ∧ Below w.heap.size w w' := by
  obtain ⟨P, hP⟩ : ∃ P, P = repL g f k t := ⟨_, rfl⟩
  have HP := hide hP
  have HPT := hide (fun h : repL g f k t ≠ [] => repL_pt h)
  have hP8 : P.length ≤ 8 := by rw [hP]; exact repL_len g f k t
  have HRS : Hid (∀ S, RSt g f k t S (P ≠ []) ↔ ((P ≠ [] → P ≠ [] ∧ Gd g (lkOf g k) P 0 S) ∧ (P = [] → ¬ P ≠ [] ∧ S = []))) := hide (fun S => by rw [hP]; exact Iff.rfl)
  rw [← hP] at HPT
  rw [← hP]
  obtain ⟨bv, hbv⟩ : ∃ bv, bv = tb (P ≠ []) := ⟨_, rfl⟩
  rw [← hbv]
  have HBV := hide hbv
  clear hbv hP
  have hvv := hv
  obtain ⟨A, cap, rfl, hc, hr⟩ := hv.form
  obtain ⟨B, hB⟩ : ∃ B, B = w.heap.size := ⟨_, rfl⟩
  obtain ⟨wb, hwb⟩ : ∃ wb, wb = w.alloc (Obj.cells #[.int .i64 g.n, .slice A g.ls.length cap] 25) := ⟨_, rfl⟩
  have hbw : Below w.heap.size w wb := by rw [hwb]; exact below1 _ _
  have HB : Hid (Blk wb B 25 #[.int .i64 g.n, .slice A g.ls.length cap]) := hide (by rw [hwb, hB]; exact Blk.new _ _ _)
  have HV := hide (hvv.up hbw)
  clear hr hvv hv
  go_enter Try.func49, Try.ntmps49
  go_wp2_with fail
  rw [← hwb, ← hB]
  clear hwb hB
  refine (repairPath_any _ g f k t _ HV.out hm).mono ?_
  rw [← HP.out]
  rintro e w1 ⟨v1, rfl, hO1, hb1⟩
  obtain ⟨A1, cP, rfl, _, _⟩ := hO1.lit
  by_cases hp0 : P = []
  · have e0 : ((P.length : Int) == 0) = true := by rw [hp0]; rfl
    have hbf : bv = false := by rw [HBV.out, tb_no (fun h : P ≠ [] => h hp0)]
    subst hbf
    have HPE : Hid (P = []) := hide hp0
    clear hp0 hO1
    go_wp2
    go_ret2
    exact ⟨_, [], rfl, Own.nil _ _ _ _ _, (HRS.out []).2 ⟨fun h => absurd HPE.out h, fun h => ⟨fun h2 => h2 h, rfl⟩⟩, hbw.trans (hb1.mono hbw.size)⟩
  have hpos := List.length_pos_iff.2 hp0
  have e0 : ((P.length : Int) == 0) = false := by rw [beq_eq_false_iff_ne]; omega
  have hbf : bv = true := by rw [HBV.out, tb_yes hp0]
  subst hbf
  have HPN : Hid (P ≠ []) := hide hp0
  obtain ⟨oP, cp1, he, _, _⟩ := hO1.form hpos
  have hA1 : A1 = some ⟨oP, 0, none⟩ := by injection he
  subst hA1
  have HK : Hid (StK wb w1 B oP cP wb.heap.size A cap g f k t P) := hide ⟨HB.out, HV.out, hO1, (HPT.out hp0).1, (HPT.out hp0).2⟩
  have h12 := below1 w1 (Obj.cells #[] 92)
  have hOE : OutE lbc 92 2 wb w1 (w1.alloc (Obj.cells #[] 92)) (.slice (some ⟨w1.heap.size, 0, none⟩) 0 0) [] wb.heap.size :=
    ⟨hb1.trans (h12.mono hb1.size), ownE w1 _ hb1.size, fun q hq => by cases hq; exact .inr (Nat.le_refl _), fun q _ h2 => h12.block q h2, h12.size⟩
  obtain ⟨E, hE⟩ : ∃ E, E = w1.heap.size := ⟨_, rfl⟩
  obtain ⟨w2, hw2⟩ : ∃ w2, w2 = w1.alloc (Obj.cells #[] 92) := ⟨_, rfl⟩
  rw [← hw2, ← hE] at hOE
  have HOE := hide hOE
  clear hO1 hb1 he hp0 h12 hOE HV HB
  go_upto_region 6 with fail
  rw [← hw2, ← hE]
  clear hw2 hE
  go_loopg [11, 13] (P.length - 1) (fun gg rv av wr => ∃ (i : Nat) (S : List Lb) (A5 : Option Addr) (c5 : Nat), i + 1 + gg = P.length ∧ S.length ≤ i ∧ rv = .slice A5 S.length c5 ∧ av = .int .i64 i ∧ Hid (OutE lbc 92 2 wb w1 wr (.slice A5 S.length c5) S wb.heap.size) ∧ Hid (Going g (lkOf g k) P i S))
  case atStart => exact ⟨0, [], _, _, by omega, Nat.le_refl _, rfl, rfl, HOE, hide (going_start _ _ _)⟩
  case round =>
    clear HOE
    obtain ⟨i, S, A5, c5, hi, hSi, rfl, rfl, HO, HGO⟩ := hrel
    by_cases hlt : 0 < gk
    · obtain ⟨a, ha⟩ := get_some (show i < P.length by omega)
      have HAi := hide ha
      clear ha
      obtain ⟨gko, hgko⟩ : ∃ z, z = gk := ⟨_, rfl⟩
      subst hgko
      obtain ⟨wo, hwo⟩ : ∃ wo, wo = wr := ⟨_, rfl⟩
      subst hwo
      have m0 : decide ((i : Int) < (P.length : Int) - 1) = true := decide_eq_true (by omega)
      go_wp2
      clear m0
      go_loopg [14] (P.length - 1 - i) (fun gg ev wr => ∃ (e0 : Nat), e0 = i + gg ∧ e0 + 1 ≤ P.length ∧ ev = .int .i64 e0 ∧ Hid (OutE lbc 92 2 wb w1 wr (.slice A5 S.length c5) S wb.heap.size) ∧ Hid (∀ j c, e0 < j → P[j]? = some c → ¬ Sf g (lkOf g k) a c))
      case atStart => exact ⟨P.length - 1, by omega, by omega, congrArg (Value.int .i64) (by omega), HO, hide fun j c h hc => by have := get_lt hc; omega⟩
      case round =>
        clear HO
        obtain ⟨e0, he0, hel, rfl, HO, HNO⟩ := hrel
        have he1 : e0 ≤ i + gk := by omega
        have he2 : i + gk ≤ e0 := by omega
        clear he0
        have c0 := HK.out.c0 HO.out
        have c1 := HK.out.c1 HO.out
        have x0 := HK.out.at HO.out HAi.out
        have hcap0 := HK.out.hp.caps
        by_cases hg0 : 0 < gk
        · have hie : i < e0 := by omega
          have n0 : decide ((i : Int) < (e0 : Int)) = true := decide_eq_true (by omega)
          have n1 : decide (i < e0) = true := decide_eq_true hie
          obtain ⟨b, hb⟩ := get_some (show e0 < P.length by omega)
          have HBe := hide hb
          have x1 := HK.out.at HO.out hb
          have e1 := fun y => wext_cell wr y c0
          have e2 := fun y => wext_cell wr y c1
          have e3 := fun y => wext_cell wr y x0
          have e4 := fun y => wext_cell wr y x1
          have HSC := hide (fun y => isSafe_k _ g a b k (wext wr y) ((HK.out.gr HO.out).up (wext_below wr y)) HK.out.hk.1.1 (HK.out.nd HAi.out) (HK.out.nd HBe.out) HK.out.hk.1.2.1)
          clear hb x1 c0 c1 x0
          go_upto_region 8 with fail
          by_cases hsf : Sf g (lkOf g k) a b
          · rw [tb_yes hsf] at HSC
            have HSF := hide hsf
            clear hsf
            refine region_q (by kernel_rfl) (by kernel_rfl) ?_
            repeat (go_big_quiet_step ((first | (go_at_call 87; with_reducible exact q_call (HSC.out _)))))
            refine wpQuiet_nil ?_
            intro wx hbx
            have HO := hide (HO.out.below hbx)
            clear e1 e2 e3 e4 HSC
            obtain ⟨S1, hS1⟩ : ∃ S1 : List Lb, S1 = S ++ [⟨1, b⟩] := ⟨_, rfl⟩
            have hS1l : S1.length ≤ S.length + 1 := by rw [hS1]; simp
            have HS1 := hide hS1
            have HGO1 : Hid (Going g (lkOf g k) P e0 S1) := hide (by rw [HS1.out]; exact HGO.out.node hie HAi.out HBe.out HSF.out HNO.out)
            have x1 := HK.out.at HO.out HBe.out
            clear hS1
            go_upto_region 11 with fail
            go_wp2_with (at_builtin; refine wpList_appO (by rfl) infLb (.tmp 53) (.tmp 59) (by rfl) _ _ (by rfl) (by rfl) wb w1 wb.heap.size S [⟨1, b⟩] S1 S1.length HS1.out rfl (HO.out.below (below1 _ _)) (slr_lab _ ⟨1, b⟩) (by omega) ?_; intro Ay capy w4 hO4)
            have HO4 := hide hO4
            clear hO4 HO
            go_roundg (P.length - 1 - e0)
            case measure => omega
            case rel => exact ⟨e0, S1, _, _, by omega, by omega, rfl, rfl, HO4, HGO1⟩
          · rw [tb_no hsf] at HSC
            have HSF := hide hsf
            clear hsf
            refine region_q (by kernel_rfl) (by kernel_rfl) ?_
            repeat (go_big_quiet_step ((first | (go_at_call 87; with_reducible exact q_call (HSC.out _)))))
            refine wpQuiet_nil ?_
            intro wx hbx
            have HO1 := hide (HO.out.below hbx)
            clear e1 e2 e3 e4 HSC HO
            go_wp2
            go_roundg (gk - 1)
            case measure => omega
            case rel => exact ⟨e0 - 1, by omega, by omega, by go_num, HO1, hide fun j c h hc => by
                by_cases hje : j = e0
                · subst hje; rw [HBe.out] at hc; cases hc; exact HSF.out
                · exact HNO.out j c (by omega) hc⟩
        · have hie : e0 = i := by omega
          subst hie
          obtain ⟨b, hb⟩ := get_some (show e0 + 1 < P.length by omega)
          have HBe := hide hb
          have hw1 : IntKind.i64.wrap ((e0 : Int) + 1) = (e0 : Int) + 1 := by rw [IntKind.wrap_i64]; omega
          have hb1 := get_lt hb
          have hb0 : e0 < P.length := by omega
          have hb2 : (e0 : Int) + 1 < (P.length : Int) := by omega
          have hb3 : 0 ≤ (e0 : Int) + 1 := by omega
          obtain ⟨q, hq⟩ : ∃ q, q = lnk g a b := ⟨_, rfl⟩
          obtain ⟨S1, hS1⟩ : ∃ S1 : List Lb, S1 = S ++ [⟨2, q⟩] := ⟨_, rfl⟩
          have hS1l : S1.length ≤ S.length + 1 := by rw [hS1]; simp
          have HS1 := hide hS1
          have HGO1 : Hid (Going g (lkOf g k) P (e0 + 1) S1) := hide (by rw [HS1.out, hq]; exact HGO.out.link HAi.out HBe.out HNO.out)
          have HCN := hide (fun W (hW : GrR W W.heap.size (.agg #[.int .i64 g.n, .slice A g.ls.length cap]) g) => linkOf_any _ g a b W hW hm)
          rw [← hq] at HCN
          have HCL : Hid (∀ (W : World) (u : Value) (T : List Lb), OutE lbc 92 2 wb w1 W u T wb.heap.size → W.cell? ⟨B, 0, none⟩ = some (.int .i64 g.n) ∧ W.cell? ⟨B, 1, none⟩ = some (.slice A g.ls.length cap) ∧ W.cell? ⟨oP, e0, none⟩ = some (.int .i64 a) ∧ W.cell? ⟨oP, e0 + 1, none⟩ = some (.int .i64 b)) :=
            hide fun W u T h => ⟨HK.out.c0 h, HK.out.c1 h, HK.out.at h HAi.out, HK.out.at h HBe.out⟩
          clear hS1 hq hb c0 c1 x0
          go_upto_region 8 with fail
          refine region_q (by kernel_rfl) (by kernel_rfl) ?_
          repeat (go_big_quiet_step ((first | (fail))))
          refine wpQuiet_nil ?_
          intro wx hbx
          have HO1 := hide (HO.out.below hbx)
          clear HO
          obtain ⟨c0, c1, x0, x1⟩ := HCL.out _ _ _ HO1.out
          go_upto_region 12 with fail
          have HOd := hide (HO1.out.below ((Below.refl _ _).drew))
          go_region_held3 (fun X => X.cell? ⟨B, 0, none⟩ = some (.int .i64 g.n) ∧ X.cell? ⟨B, 1, none⟩ = some (.slice A g.ls.length cap) ∧ X.cell? ⟨oP, e0, none⟩ = some (.int .i64 a) ∧ X.cell? ⟨oP, e0 + 1, none⟩ = some (.int .i64 b))
            (first | go_keep | exact HCL.out _ _ _ HO4.out | exact HCL.out _ _ _ (HO4.out.below (below1 _ _)) | exact HCL.out _ _ _ HO5.out | fail)
            (first
              | (go_at_call 84; refine (HCN.out _ (HK.out.gr HOd.out)).mono ?_
                 rintro e w4 ⟨rfl, hb4⟩
                 have HO4 := hide (HOd.out.below hb4))
              | (refine step_appO (by rfl) infLb (.tmp 62) (.tmp 75) (by rfl) _ _ (by rfl) (by rfl) wb w1 wb.heap.size S [⟨2, q⟩] S1 S1.length HS1.out rfl (HO4.out.below (below1 _ _)) (slr_lab w4 ⟨2, q⟩) (by omega) ?_
                 intro A6 c6 w5 hO5
                 have HO5 := hide hO5)
              | fail)
          all_goals
            go_wp2
            go_roundg (gko - 1)
            case measure => omega
            case rel => exact ⟨e0 + 1, S1, _, _, by omega, by omega, rfl, by go_num, HO5, HGO1⟩
    · have HGE : Hid (RSt g f k t S (P ≠ [])) := hide ((HRS.out S).2 ⟨fun h => ⟨h, HGO.out.stop (by omega)⟩, fun h => absurd h HPN.out⟩)
      go_wp2
      go_ret2
      exact ⟨_, S, rfl, HO.out.o.low hbw.size, HGE.out, hbw.trans (HO.out.bw.mono hbw.size)⟩
end Go.Proofs.Ytbhkjeicogjfbaa
