/- Distances and GraphReach of the program. Conditions: at most 1048576 links. -/
import Derived.Test.YtbhkjeicogjfbaaSelI
namespace Go.Proofs.Ytbhkjeicogjfbaa
open Go.RowKit

noncomputable def distX (g : Gr) (f : Int) : List Int := okL (GV g ∧ Nd g f) (distL g f)
noncomputable def reachL (g : Gr) (f : Int) : List Int := okL (GV g ∧ Nd g f) (selTo (fun y => 0 ≤ D g f y) g.n.toNat)
set_option maxRecDepth 100000 in
set_option maxHeartbeats 1600000 in
theorem reach_any (v : Value) (g : Gr) (f : Int) (w : World) (hv : GrR w w.heap.size v g) (hm : g.ls.length ≤ 1048576) :
    Calls Try.prog 25 #[v, .int .i64 f] w fun e w' => ∃ v', e = .returned v' ∧ Own ic 3 1 w' w.heap.size v' (reachL g f) ∧ Below w.heap.size w w' := by
  obtain ⟨R, hR⟩ : ∃ R, R = reachL g f := ⟨_, rfl⟩
  rw [← hR]
  have HR := hide hR
  clear hR
  obtain ⟨P, hP⟩ : ∃ P : Int → Prop, P = fun y => 0 ≤ D g f y := ⟨_, rfl⟩
  have HP := hide hP
  clear hP
  have hvv := hv
  obtain ⟨A, cap, rfl, hc, hr⟩ := hv.form
  obtain ⟨wb, hwb⟩ : ∃ wb, wb = w.alloc (Obj.cells #[.int .i64 g.n, .slice A g.ls.length cap] 25) := ⟨_, rfl⟩
  have hbw : Below w.heap.size w wb := by rw [hwb]; exact below1 _ _
  have HB : Hid (Blk wb w.heap.size 25 #[.int .i64 g.n, .slice A g.ls.length cap]) := hide (by rw [hwb]; exact Blk.new _ _ _)
  have HDI := hide (fun (h : GV g ∧ Nd g f) W (hW : GrR W W.heap.size (.agg #[.int .i64 g.n, .slice A g.ls.length cap]) g) => distances_any _ g f W hW h.1 h.2)
  obtain ⟨d, hd⟩ : ∃ d, d = distL g f := ⟨_, rfl⟩
  rw [← hd] at HDI
  have HD := hide hd
  have HV := hide (hvv.up hbw)
  clear hd hvv hv hr
  go_enter Try.func25, Try.ntmps25
  go_wp2_with fail
  rw [← hwb]
  clear hwb
  refine (hasNode_any _ g _ _ HV.out hm).mono ?_
  rintro e w1 ⟨rfl, hb1⟩
  have HB1 := hide (HB.out.up hb1)
  have HV1 := hide (HV.out.up hb1)
  have hb01 := hbw.trans (hb1.mono hbw.size)
  clear HB HV hb1 hbw
  have c0 := HB1.out.cell 0
  have c1 := HB1.out.cell 1
  by_cases hA : GV g ∧ Nd g f
  · rw [tb_yes hA]
    have HA := hide hA
    have hb0 := hb01.size
    obtain ⟨hn1, hn2⟩ := hA.1.n
    clear hA
    go_upto_region 4 with fail
    obtain ⟨wd, hwd⟩ : ∃ wd, wd = w1.alloc (Obj.cells #[] 3) := ⟨_, rfl⟩
    have h1d : Below w1.heap.size w1 wd := by rw [hwd]; exact below1 _ _
    have HO0 : Hid (Own ic 3 1 wd w1.heap.size (.slice (some ⟨w1.heap.size, 0, none⟩) 0 0) []) := hide (by rw [hwd]; exact ownE w1 _ (Nat.le_refl _))
    have HVd := hide (HV1.out.up h1d)
    have HBd := hide (HB1.out.up h1d)
    rw [← hwd]
    clear hwd c0 c1 HV1 HB1
    have c0 := HBd.out.cell 0
    have c1 := HBd.out.cell 1
    go_wp2_with fail
    refine (HDI.out HA.out _ HVd.out).mono ?_
    rintro e w2 ⟨o, rfl, hO, hb2⟩
    have HDO := hide hO
    have HO1 := hide (HO0.out.below hb2)
    have hb12 := h1d.trans (hb2.mono h1d.size)
    obtain ⟨N, hN⟩ : ∃ N, N = g.n.toNat := ⟨_, rfl⟩
    have HN := hide hN
    have hN8 : N ≤ 8 := by omega
    have hlD : d.length = N := by rw [HD.out, distL_len, hN]
    have how : w1.heap.size < o := by have h1 := (World.ownsRow.lt hO o rfl).1; have h2 := (World.ownsRow.lt HO0.out w1.heap.size rfl).2; omega
    have hsd := h1d.size
    rw [← hN] at HDO
    rw [← hN]
    clear hO HO0 HVd HBd hb2 h1d c0 c1 hN
    go_wp2
    go_loopg [5, 17] (N) (fun gg rv iv wr => ∃ (j : Nat) (A5 : Option Addr) (c5 : Nat), j + gg = N ∧ rv = .slice A5 (selTo P j).length c5 ∧ iv = .int .i64 j ∧ Below w1.heap.size w1 wr ∧ Hid (Own ic 3 1 wr w1.heap.size (.slice A5 (selTo P j).length c5) (selTo P j)) ∧ Hid (Own ic 3 1 wr w.heap.size (.slice (some ⟨o, 0, none⟩) N N) d ∧ A5 ≠ some ⟨o, 0, none⟩))
    case atStart => exact ⟨0, _, _, by omega, rfl, rfl, hb12, HO1, hide ⟨HDO.out.low (Nat.le_trans hb0 (by omega)), fun h => by cases h; omega⟩⟩
    case round =>
      obtain ⟨j, A5, c5, hj, rfl, rfl, hbe, HO, HDR⟩ := hrel
      obtain ⟨L, hL⟩ : ∃ L, L = selTo P j := ⟨_, rfl⟩
      have HL := hide hL
      rw [← hL] at HO
      rw [← hL]
      clear hL
      by_cases hlt : j < N
      · obtain ⟨p, hp⟩ : ∃ p, p = at' d (j : Nat) := ⟨_, rfl⟩
        have HPp : Hid (P (j : Int) ↔ 0 ≤ p) := hide (by rw [HP.out, hp, HD.out]; exact Iff.rfl)
        have x1 := own_int HDR.out.1 (i := j) (v := p) (by rw [hp]; exact at_nat (by omega))
        clear hp
        by_cases hQ : 0 ≤ p
        · have HN1 : Hid (selTo P (j + 1) = L ++ [(j : Int)]) := hide (by rw [selTo_yes (HPp.out.2 hQ), HL.out])
          have HNl : Hid (L.length + 1 ≤ 8) := hide (by
            have h1 := selTo_le P (j + 1) (by omega)
            rw [HN1.out] at h1
            simpa using h1)
          have hne : (Value.slice A5 L.length c5).ownBlock ≠ some o := by
            intro h
            cases A5 with
            | none => simp [Value.ownBlock] at h
            | some a => 
              obtain ⟨g', cap', hh, _⟩ | h0 := (show (∃ g cap, Value.slice (some a) L.length c5 = .slice (some ⟨g, 0, none⟩) L.length cap ∧ w1.heap.size ≤ g ∧ g < wr.heap.size) ∨ L.length = 0 from by
                by_cases h0 : L.length = 0
                · exact .inr h0
                · exact .inl (HO.out.form (by omega)))
              · injection hh with h1 _ _
                injection h1 with h1
                subst h1
                simp [Value.ownBlock] at h
                exact HDR.out.2 (by rw [h])
              · rcases HO.out.2 with ⟨hh, _⟩ | ⟨g', cap', cur, hh, _⟩
                · injection hh with h1 _ _; cases h1
                · injection hh with h1 _ _
                  injection h1 with h1
                  subst h1
                  simp [Value.ownBlock] at h
                  exact HDR.out.2 (by rw [h])
          go_upto_region 9 with (at_builtin; refine wpList_app (by rfl) infI (.tmp 24) (.tmp 26) (by rfl) _ _ (by rfl) (by rfl) w1.heap.size (wr.heap.size + 1) L [(j : Int)] (HO.out.below (below1 _ _)) (slr_lit _ _) (by have := HNl.out; simp; omega) (Nat.le_trans hbe.size (below1 wr (Obj.cells #[.int .i64 (j : Int)] 3)).size) ?_; intro Ay capy w4 hO4 hg4 hd4)
          have hb4 := (hbe.trans ((below1 wr (Obj.cells #[.int .i64 (j : Int)] 3)).mono hbe.size)).grown hg4 (Nat.le_trans hbe.size (below1 wr (Obj.cells #[.int .i64 (j : Int)] 3)).size) (fun q hq => (World.ownsRow.lt HO.out q hq).1)
          have HO4 : Hid (Own ic 3 1 w4 w1.heap.size (.slice Ay (selTo P (j + 1)).length capy) (selTo P (j + 1))) := hide (by rw [HN1.out, List.length_append]; exact hO4)
          have HD4 : Hid (Own ic 3 1 w4 w.heap.size (.slice (some ⟨o, 0, none⟩) N N) d ∧ Ay ≠ some ⟨o, 0, none⟩) := hide ⟨own_grown (HDR.out.1.below (below1 _ _)) hg4 (fun q hq => by simp [Value.ownBlock] at hq; subst hq; exact hne), by
            intro h
            subst h
            have hlo := (World.ownsRow.lt HDR.out.1 o rfl).2
            rcases hd4 with h | h
            · exact hne (by rw [← h]; simp [Value.ownBlock])
            · simp [Value.ownBlock] at h; omega⟩
          have HLN : Hid ((selTo P (j + 1)).length = L.length + 1) := hide (by rw [HN1.out]; simp)
          clear hO4 hg4 hd4 hne HO HDR x1
          go_wp2
          go_roundg (gk - 1)
          case measure => omega
          case rel => exact ⟨j + 1, _, _, by omega, by rw [HLN.out], by go_num, hb4, HO4, HD4⟩
        · have HN1 : Hid (selTo P (j + 1) = L) := hide (by rw [selTo_no (fun h => hQ (HPp.out.1 h)), HL.out])
          go_wp2
          go_roundg (gk - 1)
          case measure => omega
          case rel => exact ⟨j + 1, _, c5, by omega, by rw [HN1.out], by go_num, hbe, by rw [HN1.out]; exact HO, HDR⟩
      · have hjn : j = N := by omega
        have hR : R = L := by rw [HR.out, reachL, okL_yes HA.out, HL.out, hjn, HN.out, HP.out]
        have HF := hide (HO.out.low (base' := w.heap.size) (by omega))
        have hbf := hb01.trans (hbe.mono hb01.size)
        rw [← hR] at HF
        rw [← hR]
        clear hR hjn
        go_wp2
        go_ret
        exact ⟨_, rfl, HF.out, hbf⟩
  · rw [tb_no hA]
    have HA := hide hA
    clear hA
    go_wp2
    go_ret
    exact ⟨_, rfl, by rw [HR.out, reachL, okL_no HA.out]; exact Own.nil _ _ _ _ _, hb01⟩
end Go.Proofs.Ytbhkjeicogjfbaa
