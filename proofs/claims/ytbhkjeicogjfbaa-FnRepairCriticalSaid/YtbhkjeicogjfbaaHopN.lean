/- nextHops of the program. Conditions: the graph is valid, the nodes are nodes of it. -/
import Derived.Test.YtbhkjeicogjfbaaHopI
import Derived.Test.YtbhkjeicogjfbaaPth
import Derived.Test.YtbhkjeicogjfbaaOut
namespace Go.Proofs.Ytbhkjeicogjfbaa
open Go.RowKit

set_option maxRecDepth 100000 in
set_option maxHeartbeats 1600000 in
theorem nextHops_any (v : Value) (g : Gr) (f t : Int) (w : World) (hv : GrR w w.heap.size v g) (hg : GV g) (hf : Nd g f) (ht : Nd g t) :
    Calls Try.prog 82 #[v, .int .i64 f, .int .i64 t] w fun e w' => ∃ v', e = .returned v' ∧ Own ic 3 1 w' w.heap.size v' (hopL g t f) ∧ Below w.heap.size w w' := by
  have hvv := hv
  obtain ⟨A, cap, rfl, hc, hr⟩ := hv.form
  have hlen := hg.len
  have hn := hg.n
  obtain ⟨nf, rfl⟩ := Int.eq_ofNat_of_zero_le hf.1
  have hfl := hf.2
  have HG := hide hg
  have HNF := hide hf
  have HNT := hide ht
  obtain ⟨wb, hwb⟩ : ∃ wb, wb = w.alloc (Obj.cells #[.int .i64 g.n, .slice A g.ls.length cap] 25) := ⟨_, rfl⟩
  have hbw : Below w.heap.size w wb := by rw [hwb]; exact below1 _ _
  have hwbs : wb.heap.size = w.heap.size + 1 := by rw [hwb]; simp
  have HB : Hid (Blk wb w.heap.size 25 #[.int .i64 g.n, .slice A g.ls.length cap]) := hide (by rw [hwb]; exact Blk.new _ _ _)
  have HV := hide (hvv.up hbw)
  have h1b := below1 wb (Obj.cells #[] 3)
  have hE : Own ic 3 1 (wb.alloc (.cells #[] 3)) wb.heap.size (.slice (some ⟨w.heap.size + 1, 0, none⟩) 0 0) [] := by rw [← hwbs]; exact ownE wb _ (Nat.le_refl _)
  have HB0 := hide (HB.out.up h1b)
  have HE := hide hE
  have c0 := HB0.out.cell 0
  have c1 := HB0.out.cell 1
  obtain ⟨H, hH⟩ : ∃ H, H = hopL g t nf := ⟨_, rfl⟩
  have HH := hide hH
  rw [← hH]
  clear hE hv hg hf ht hvv hH
  go_enter Try.func82, Try.ntmps82
  go_upto_region 1 with fail
  rw [← hwb]
  clear hwb
  go_wp2_with fail
  refine (distances_any _ g t _ (HV.out.up h1b) HG.out HNT.out).mono ?_
  obtain ⟨N, hN⟩ : ∃ N, N = g.n.toNat := ⟨_, rfl⟩
  have HN := hide hN
  rw [← hN]
  rintro e w1 ⟨o, rfl, hO1, hb1⟩
  have hs1 : w.heap.size + 2 ≤ (wb.alloc (Obj.cells #[] 3)).heap.size := by simp; omega
  have hb01 := h1b.trans (hb1.mono h1b.size)
  have HT : Hid (OutI wb w1 w1 (.slice (some ⟨w.heap.size + 1, 0, none⟩) 0 0) [] (w.heap.size + 2)) := hide (OutE.start hb01 (HE.out.below hb1) fun q hq => by cases hq; show w.heap.size + 1 < w.heap.size + 2; omega)
  have HD := hide (hO1.low hs1)
  have HBv := hide (HB.out.up hb01)
  clear HE HB0 c0 c1 hb01 hb1 h1b hO1 hs1
  obtain ⟨q0, hq0⟩ : ∃ q, q = D g t nf := ⟨_, rfl⟩
  have hdf : (distL g t)[nf]? = some q0 := by rw [hq0]; exact D_at hfl
  have x1 := own_int HD.out hdf
  have HQ := hide hq0
  have hNa : (N : Int) ≤ g.n := by omega
  have hNb : g.n ≤ (N : Int) := by omega
  clear hdf hq0 hN
  by_cases hft : (nf : Int) = t
  · have e1 : ((nf : Int) == t) = true := by rw [beq_iff_eq]; exact hft
    have HHn : Hid (H = []) := hide (by rw [HH.out, hft]; exact hopL_self HG.out HNT.out)
    clear hft x1
    go_wp2
    go_ret
    exact ⟨_, rfl, by rw [HHn.out]; exact HT.out.o.low hbw.size, hbw.trans (HT.out.bw.mono hbw.size)⟩
  have e1 : ((nf : Int) == t) = false := by rw [beq_eq_false_iff_ne]; exact hft
  have HFT := hide hft
  clear hft
  by_cases hq : q0 < 0
  · have HHn : Hid (H = []) := hide (by rw [HH.out]; exact hopL_far HG.out (by rw [← HQ.out]; exact hq))
    go_wp2
    go_ret
    exact ⟨_, rfl, by rw [HHn.out]; exact HT.out.o.low hbw.size, hbw.trans (HT.out.bw.mono hbw.size)⟩
  have c0 := HBv.out.cell 0
  have c1 := HBv.out.cell 1
  go_wp2_with fail
  refine (neighbours_any _ g nf _ (HV.out.up HT.out.bw) HG.out).mono ?_
  obtain ⟨NB, hNB⟩ : ∃ NB, NB = nbL g nf := ⟨_, rfl⟩
  have HNB := hide hNB
  have hnb8 : NB.length ≤ 8 := by rw [hNB]; exact nbL_len HG.out nf
  rw [← hNB]
  rintro e w2 ⟨v2, rfl, hO2, hb2⟩
  obtain ⟨A2, k2, rfl, _, _⟩ := hO2.lit
  have hbm := HT.out.bw.size
  have HT2 : Hid (OutI wb w2 w2 (.slice (some ⟨w.heap.size + 1, 0, none⟩) 0 0) (hopTo g t nf 0) (w.heap.size + 2)) := hide (by
    have h := HT.out.below hb2
    exact OutE.start h.bw h.o fun q hq => by cases hq; show w.heap.size + 1 < w.heap.size + 2; omega)
  have HD2 := hide (HD.out.below hb2)
  have hsz : w.heap.size + 2 ≤ w1.heap.size := by have := (World.ownsRow.lt HD.out o rfl); omega
  have HNBo := hide (hO2.low hsz)
  clear c0 c1 x1 HT HD HBv hNB hO2 hb2 hbm hsz
  go_wp2
  go_loopg [7, 30] (NB.length) (fun gg rv iv wr => ∃ (k : Nat) (A5 : Option Addr) (c5 : Nat), k + gg = NB.length ∧ rv = .slice A5 (hopTo g t nf k).length c5 ∧ iv = .int .i64 k ∧ Hid (OutI wb w2 wr (.slice A5 (hopTo g t nf k).length c5) (hopTo g t nf k) (w.heap.size + 2)))
  case atStart => exact ⟨0, _, _, by omega, rfl, rfl, HT2⟩
  case round =>
    clear HT2
    obtain ⟨k, A5, c5, hk, rfl, rfl, HO⟩ := hrel
    obtain ⟨L, hL⟩ : ∃ L, L = hopTo g t nf k := ⟨_, rfl⟩
    have hLl : L.length ≤ 8 := by rw [hL]; exact hopTo_len HG.out t nf k
    rw [← hL] at HO
    rw [← hL]
    have HL := hide hL
    clear hL
    by_cases hlt : k < NB.length
    · obtain ⟨m, hm⟩ := get_some hlt
      have hnb : Nbr g nf m := (nbL_mem HG.out).1 (by rw [← HNB.out]; exact List.mem_of_getElem? hm)
      have hmn := (hnb.nd HG.out).2
      obtain ⟨am, rfl⟩ := Int.eq_ofNat_of_zero_le hmn.1
      have hmlt := hmn.2
      obtain ⟨j, l, hlk, hlj, hjn⟩ := lnk_get HG.out hnb
      obtain ⟨b0, off, rfl, hb0, hcell⟩ := hr (by have := get_lt hlj; omega)
      have hjl := get_lt hlj
      obtain ⟨o2, cp2, he2, _, _⟩ := HNBo.out.form (by omega)
      have hA2 : A2 = some ⟨o2, 0, none⟩ := by injection he2
      subst hA2
      have hlv := (HG.out.lv (List.mem_of_getElem? hlj)).2.2.2
      obtain ⟨lc1, lc2⟩ := hlv
      have hbwr := hbw.trans (HO.out.bw.mono hbw.size)
      obtain ⟨_, _, g3⟩ := linkAt (hcell.keep (w' := wr) fun p hp => hbwr.cell (by omega)) hlj
      obtain ⟨p, hp⟩ : ∃ p, p = D g t am := ⟨_, rfl⟩
      have hpe : 0 ≤ p := by
        have e : Ed g nf am l.c := ⟨l, List.mem_of_getElem? hlj, rfl, hjn⟩
        have h1 := D_edge HG.out HNT.out e (show 0 ≤ D g t nf by rw [← HQ.out]; omega)
        rw [hp]; exact h1.1
      have hpb : p ≤ 140 := by rw [hp]; have := D_few HG.out HNT.out hmn; omega
      have x0 := own_int (HO.out.own HNBo.out (Nat.le_refl _)) hm
      have xm := own_int (HO.out.own HD2.out (Nat.le_refl _)) (show (distL g t)[am]? = some p by rw [hp]; exact D_at hmlt)
      have xf := own_int (HO.out.own HD2.out (Nat.le_refl _)) (show (distL g t)[nf]? = some q0 by rw [HQ.out]; exact D_at hfl)
      have k0 := (HB.out.up HO.out.bw).cell 0
      have k1 := (HB.out.up HO.out.bw).cell 1
      have hcl := fun y => linkOf_any _ g nf am (wext wr y) ((HV.out.up HO.out.bw).up (wext_below wr y)) (by omega)
      rw [hlk] at hcl
      have HCL := hide hcl
      have HHP : Hid (Hp g t nf am ↔ p + l.c = q0) := hide (by
        rw [hp_iff HG.out hlj hjn, ← hp, ← HQ.out]
        exact ⟨fun h => h.2, fun h => ⟨hpe, h⟩⟩)
      have hw1 : IntKind.i64.wrap (p + l.c) = p + l.c := by rw [IntKind.wrap_i64]; omega
      have HM := hide (show (nbL g nf)[k]? = some (am : Int) by rw [← HNB.out]; exact hm)
      obtain ⟨lcost, hlcost⟩ : ∃ z, z = l.c := ⟨_, rfl⟩
      rw [← hlcost] at g3 HHP hw1 lc1 lc2
      clear hcl hnb hlk hlj hjn hp hm he2 hcell hr hmn hlcost
      go_upto_region 7 with fail
      have e0 := fun y => wext_cell wr y g3
      have e1' := fun y => wext_cell wr y xm
      have e2 := fun y => wext_cell wr y xf
      have e3 := fun y => wext_cell wr y k0
      have e4 := fun y => wext_cell wr y k1
      clear g3 xm xf k0 k1 x0
      by_cases hfit : p + lcost = q0
      · have e9 : (p + lcost == q0) = true := by rw [beq_iff_eq]; exact hfit
        have HNx : Hid (hopTo g t nf (k + 1) = L ++ [(am : Int)]) := hide (by rw [hopTo_yes HM.out (HHP.out.2 hfit), HL.out])
        clear hfit
        refine region_q (by kernel_rfl) (by kernel_rfl) ?_
        repeat (go_big_quiet_step ((first | (go_at_call 84; with_reducible exact q_call (HCL.out _)))))
        refine wpQuiet_nil ?_
        intro wx hbx
        have HO1 := hide (HO.out.below hbx)
        clear e0 e1' e2 e3 e4 e9 HO
        go_upto_region 9 with (at_builtin; refine wpList_appO (by rfl) infI (.tmp 53) (.tmp 55) (by rfl) _ _ (by rfl) (by rfl) wb w2 (w.heap.size + 2) L [(am : Int)] (hopTo g t nf (k + 1)) (hopTo g t nf (k + 1)).length HNx.out rfl (HO1.out.below (below1 _ _)) (slr_lit _ _) (by rw [HNx.out]; simp; omega) ?_; intro Ay capy w4 hO4)
        have HO4 := hide hO4
        clear hO4 HO1
        go_wp2
        go_roundg (gk - 1)
        case measure => omega
        case rel => exact ⟨k + 1, _, _, by omega, rfl, by go_num, HO4⟩
      · have e9 : (p + lcost == q0) = false := by rw [beq_eq_false_iff_ne]; exact hfit
        have HNx : Hid (hopTo g t nf (k + 1) = L) := hide (by rw [hopTo_no HM.out (fun h => hfit (HHP.out.1 h)), HL.out])
        clear hfit
        refine region_q (by kernel_rfl) (by kernel_rfl) ?_
        repeat (go_big_quiet_step ((first | (go_at_call 84; with_reducible exact q_call (HCL.out _)))))
        refine wpQuiet_nil ?_
        intro wx hbx
        have HO1 := hide (HO.out.below hbx)
        clear e0 e1' e2 e3 e4 e9 HO
        go_wp2
        go_roundg (gk - 1)
        case measure => omega
        case rel => exact ⟨k + 1, _, c5, by omega, by rw [HNx.out], by go_num, by rw [HNx.out]; exact HO1⟩
    · have HHL : Hid (H = L) := hide (by rw [HH.out, HL.out, hopTo_all (by rw [← HNB.out]; omega)])
      go_wp2
      go_ret
      exact ⟨_, rfl, by rw [HHL.out]; exact HO.out.o.low hbw.size, hbw.trans (HO.out.bw.mono hbw.size)⟩
end Go.Proofs.Ytbhkjeicogjfbaa
