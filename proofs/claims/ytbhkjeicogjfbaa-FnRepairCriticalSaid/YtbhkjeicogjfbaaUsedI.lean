/- Links on shortest paths, of the program: Us. Conditions: the graph is valid, the nodes are nodes of it, the link is a link of it. -/
import Derived.Test.YtbhkjeicogjfbaaUsedW
namespace Go.Proofs.Ytbhkjeicogjfbaa
open Go.RowKit
set_option maxRecDepth 100000 in
set_option maxHeartbeats 1600000 in
theorem linkUsed_any (v : Value) (g : Gr) (f t : Int) (k : Nat) (l : Lk) (w : World) (hv : GrR w w.heap.size v g) (hg : GV g) (hf : Nd g f) (ht : Nd g t) (hl : g.ls[k]? = some l) :
    Calls Try.prog 59 #[v, .int .i64 f, .int .i64 t, .int .i64 (k : Nat)] w fun e w' => e = .returned (.bool (tb (Us g l f t))) ∧ Below w.heap.size w w' := by
  have hvv := hv
  obtain ⟨A, cap, rfl, hc, hr⟩ := hv.form
  obtain ⟨b, off, rfl, hb, hcell⟩ := hr (by have := get_lt hl; omega)
  obtain ⟨g1, g2, g3⟩ := linkAt hcell hl
  have hlv := hg.lv (List.mem_of_getElem? hl)
  have hkl := get_lt hl
  obtain ⟨hn1, hn2⟩ := hg.n
  have hlen := hg.len
  obtain ⟨la, lb, c⟩ := l
  unfold LV at hlv
  simp only at hlv g1 g2 g3
  obtain ⟨hna, hnb, l5, l6, l7⟩ := hlv
  obtain ⟨nf, rfl⟩ := Int.eq_ofNat_of_zero_le hf.1
  obtain ⟨nt, rfl⟩ := Int.eq_ofNat_of_zero_le ht.1
  obtain ⟨na, rfl⟩ := Int.eq_ofNat_of_zero_le hna.1
  obtain ⟨nb, rfl⟩ := Int.eq_ofNat_of_zero_le hnb.1
  obtain ⟨p, hp⟩ : ∃ p, p = D g nf nt := ⟨_, rfl⟩
  obtain ⟨q, hq⟩ : ∃ q, q = D g nf na := ⟨_, rfl⟩
  obtain ⟨r, hr1⟩ : ∃ r, r = D g nf nb := ⟨_, rfl⟩
  obtain ⟨s, hs1⟩ : ∃ s, s = D g nt nb := ⟨_, rfl⟩
  obtain ⟨u, hu1⟩ : ∃ u, u = D g nt na := ⟨_, rfl⟩
  obtain ⟨U, hU⟩ : ∃ U, U = Us g ⟨na, nb, c⟩ nf nt := ⟨_, rfl⟩
  have HU : Hid (U ↔ 0 ≤ p ∧ 0 ≤ q ∧ (q + c + s = p ∨ r + c + u = p)) := hide (by rw [hU, hp, hq, hr1, hs1, hu1]; exact Iff.rfl)
  have H1 : Hid ((distL g nf)[nt]? = some p) := hide (by rw [hp]; exact D_at ht.2)
  have H2 : Hid ((distL g nf)[na]? = some q) := hide (by rw [hq]; exact D_at hna.2)
  have H3 : Hid ((distL g nf)[nb]? = some r) := hide (by rw [hr1]; exact D_at hnb.2)
  have H4 : Hid ((distL g nt)[nb]? = some s) := hide (by rw [hs1]; exact D_at hnb.2)
  have H5 : Hid ((distL g nt)[na]? = some u) := hide (by rw [hu1]; exact D_at hna.2)
  have b1 : -1 ≤ p ∧ p ≤ 140 := by rw [hp]; exact ⟨D_ge hg hf ht, by have := D_few hg hf ht; omega⟩
  have b2 : -1 ≤ q ∧ q ≤ 140 := by rw [hq]; exact ⟨D_ge hg hf hna, by have := D_few hg hf hna; omega⟩
  have b3 : -1 ≤ r ∧ r ≤ 140 := by rw [hr1]; exact ⟨D_ge hg hf hnb, by have := D_few hg hf hnb; omega⟩
  have b4 : -1 ≤ s ∧ s ≤ 140 := by rw [hs1]; exact ⟨D_ge hg ht hnb, by have := D_few hg ht hnb; omega⟩
  have b5 : -1 ≤ u ∧ u ≤ 140 := by rw [hu1]; exact ⟨D_ge hg ht hna, by have := D_few hg ht hna; omega⟩
  have hw1 : IntKind.i64.wrap (q + c) = q + c := by rw [IntKind.wrap_i64]; omega
  have hw2 : IntKind.i64.wrap (q + c + s) = q + c + s := by rw [IntKind.wrap_i64]; omega
  have hw3 : IntKind.i64.wrap (r + c) = r + c := by rw [IntKind.wrap_i64]; omega
  have hw4 : IntKind.i64.wrap (r + c + u) = r + c + u := by rw [IntKind.wrap_i64]; omega
  rw [← hU]
  have hft := hf.2
  have htt := ht.2
  have hat := hna.2
  have hbt := hnb.2
  have HF := hide hf
  have HT := hide ht
  have HG := hide hg
  obtain ⟨N, hN⟩ : ∃ N : Nat, g.n = N := ⟨g.n.toNat, by omega⟩
  have hNt : g.n.toNat = N := by omega
  clear hN
  obtain ⟨wb, hwb⟩ : ∃ wb, wb = w.alloc (Obj.cells #[.int .i64 g.n, .slice (some ⟨b, off, none⟩) g.ls.length cap] 25) := ⟨_, rfl⟩
  have hbw : Below w.heap.size w wb := by rw [hwb]; exact below1 _ _
  have HB : Hid (Blk wb w.heap.size 25 #[.int .i64 g.n, .slice (some ⟨b, off, none⟩) g.ls.length cap]) := hide (by rw [hwb]; exact Blk.new _ _ _)
  have HV := hide (hvv.up hbw)
  have HLK : Hid (∀ X, Below w.heap.size w X → X.cell? ⟨b, off + k * 3, none⟩ = some (.int .i64 na) ∧ X.cell? ⟨b, off + k * 3 + 1, none⟩ = some (.int .i64 nb) ∧ X.cell? ⟨b, off + k * 3 + 2, none⟩ = some (.int .i64 c)) :=
    hide fun X hX => ⟨(hX.cell (by exact hb)).trans g1, (hX.cell (by exact hb)).trans g2, (hX.cell (by exact hb)).trans g3⟩
  have hbl : b < w.heap.size := hb
  clear hp hq hr1 hs1 hu1 hU hf ht hg hna hnb hl hr hcell hvv hv g1 g2 g3 hb
  obtain ⟨b0, hb0⟩ : ∃ b0, b0 = w.heap.size := ⟨_, rfl⟩
  rw [← hb0] at HB
  have hbb : b < b0 := by omega
  have hne1 : b ≠ b0 := by omega
  have hne2 : b0 ≠ b := by omega
  have hb0w : b0 < wb.heap.size := HB.out.lt
  go_enter Try.func59, Try.ntmps59
  go_upto_region 1 with fail
  rw [← hwb, ← hb0]
  clear hwb
  have HC : Hid (∀ X, Below wb.heap.size wb X → X.cell? ⟨b0, 0, none⟩ = some (.int .i64 g.n) ∧ X.cell? ⟨b0, 1, none⟩ = some (.slice (some ⟨b, off, none⟩) g.ls.length cap) ∧ X.cell? ⟨b, off + k * 3, none⟩ = some (.int .i64 na) ∧ X.cell? ⟨b, off + k * 3 + 1, none⟩ = some (.int .i64 nb) ∧ X.cell? ⟨b, off + k * 3 + 2, none⟩ = some (.int .i64 c)) :=
    hide fun X hX => ⟨(HB.out.up hX).cell 0, (HB.out.up hX).cell 1, HLK.out X (hbw.trans (hX.mono hbw.size))⟩
  have HV1 : Hid (∀ X, Below wb.heap.size wb X → GrR X X.heap.size (.agg #[.int .i64 g.n, .slice (some ⟨b, off, none⟩) g.ls.length cap]) g) := hide fun X hX => HV.out.up hX
  clear hb0
  go_cut [9, 10, 11] (fun s1 s2 s3 wx => ∃ Z o1 k1 o2 k2, s1 = .slice (some ⟨o1, 0, none⟩) N k1 ∧ s2 = .slice (some ⟨o2, 0, none⟩) N k2 ∧ s3 = .pointer (some ⟨Z, 0, none⟩) ∧ Hid (TwoOwn wb wx ⟨na, nb, c⟩ Z (.slice (some ⟨o1, 0, none⟩) N k1) (.slice (some ⟨o2, 0, none⟩) N k2) (distL g nf) (distL g nt)))
  case first =>
    obtain ⟨a0, a1, a2, a3, a4⟩ := HC.out wb (Below.refl _ _)
    go_region_held3 (fun X => X.cell? ⟨b0, 0, none⟩ = some (.int .i64 g.n) ∧ X.cell? ⟨b0, 1, none⟩ = some (.slice (some ⟨b, off, none⟩) g.ls.length cap) ∧ X.cell? ⟨b, off + k * 3, none⟩ = some (.int .i64 na) ∧ X.cell? ⟨b, off + k * 3 + 1, none⟩ = some (.int .i64 nb) ∧ X.cell? ⟨b, off + k * 3 + 2, none⟩ = some (.int .i64 c))
      (first | go_keep | exact HC.out _ hB4 | exact HC.out _ hB3 | exact HC.out _ (hB4.alloc hB4.size _) | exact HC.out _ (hB3.alloc hB3.size _) | exact HC.out _ (below1 wb _) | exact HC.out _ (((hB4.setCell (Nat.le_refl _) _).setCell (Nat.le_refl _) _).setCell (Nat.le_refl _) _) | exact HC.out _ (((hB4.setCell hB3.size _).setCell hB3.size _).setCell hB3.size _) | exact HC.out _ (((hB4.setCell hB4.size _).setCell hB4.size _).setCell hB4.size _) | fail)
      (first
        | (go_at_call 56; refine (distances_any _ g _ _ (HV1.out _ ?_) HG.out ?_).mono ?_
           · first | exact (Below.refl _ _).drew | exact (below1 wb _).drew
           · exact HF.out
           rw [hNt]
           rintro e w3 ⟨o1, rfl, hO1, hb3⟩
           have hB3 : Below wb.heap.size wb w3 := by first | exact ((Below.refl _ _).drew).trans hb3 | exact ((below1 wb _).drew).trans (hb3.mono (by simp))
           try (have hZ3 := (show Blk (wb.alloc (.cells #[.int .i64 0, .int .i64 0, .int .i64 0] 64)).drew wb.heap.size 64 #[.int .i64 0, .int .i64 0, .int .i64 0] from Blk.new wb _ _).up hb3)
           obtain ⟨a0, a1, a2, a3, a4⟩ := HC.out w3 hB3)
        | (go_at_call 56; refine (distances_any _ g _ _ (HV1.out _ ?_) HG.out ?_).mono ?_
           · first | exact hB3 | exact hB3.alloc hB3.size _
           · exact HT.out
           rw [hNt]
           rintro e w4 ⟨o2, rfl, hO2, hb4⟩
           have hB34 : Below w3.heap.size w3 w4 := by first | exact hb4 | exact (below1 w3 _).trans (hb4.mono (by simp))
           have hB4 := hB3.trans (hB34.mono hB3.size)
           first | (have hZ4 := hZ3.up hb4) | (have hZ4 := (Blk.new w3 64 #[.int .i64 0, .int .i64 0, .int .i64 0]).up hb4) | skip
           have hO14 := hO1.below hB34
           try (have z0 := hZ4.cell 0; have z1 := hZ4.cell 1; have z2 := hZ4.cell 2; have y0 := hZ4.free 0; have y1 := hZ4.free 1; have y2 := hZ4.free 2)
           obtain ⟨a0, a1, a2, a3, a4⟩ := HC.out w4 hB4)
        | fail)
    all_goals
      go_wp2_with fail
      go_meet
      first
        | exact ⟨_, _, _, _, _, rfl, rfl, rfl, hide (two_new (l := ⟨(na : Int), (nb : Int), c⟩) hB4 hO14 hO2 (by first | exact Nat.le_refl _ | simp) (by first | exact hB3.size | (have := hB3.size; simp; omega)))⟩
        | exact ⟨_, _, _, _, _, rfl, rfl, rfl, hide (two_set (l := ⟨(na : Int), (nb : Int), c⟩) hB4 hO14 hO2 (by first | exact Nat.le_refl _ | simp) (by first | exact hB3.size | (have := hB3.size; simp; omega)) hZ4 rfl (by first | exact Nat.le_refl _ | exact hB3.size | exact hB4.size))⟩
  case rest =>
    obtain ⟨Z, o1, k1, o2, k2, rfl, rfl, rfl, HTW⟩ := hcut
    obtain ⟨wd, hwd⟩ : ∃ wd, wd = wc := ⟨_, rfl⟩
    subst hwd
    clear HC HV1 HB HV HLK
    obtain ⟨hbf, hZ0, hKZ, hO1, hO2⟩ := HTW.out
    have x1 := own_int hO1 H1.out
    have x2 := own_int hO1 H2.out
    have x3 := own_int hO1 H3.out
    have x4 := own_int hO2 H4.out
    have x5 := own_int hO2 H5.out
    have k0 := hKZ.cell 0
    have k1 := hKZ.cell 1
    have k2 := hKZ.cell 2
    have hbf' := hbw.trans (hbf.mono hbw.size)
    clear hO1 hO2 hKZ
    by_cases c1 : p < 0
    · have HUn : Hid (¬ U) := hide fun h => by have := HU.out.1 h; omega
      go_wp2
      go_ret
      exact ⟨ret_bool (tb_no HUn.out).symm, hbf'⟩
    · by_cases c2 : q < 0
      · have HUn : Hid (¬ U) := hide fun h => by have := HU.out.1 h; omega
        go_wp2
        go_ret
        exact ⟨ret_bool (tb_no HUn.out).symm, hbf'⟩
      · go_upto_region 4 with fail
        go_cut [8] (fun s wx => s = .bool (tb U) ∧ Below wd.heap.size wd wx)
        case first =>
          have e1 := fun y => wext_cell wd y x1
          have e2 := fun y => wext_cell wd y x2
          have e3 := fun y => wext_cell wd y x3
          have e4 := fun y => wext_cell wd y x4
          have e5 := fun y => wext_cell wd y x5
          have e6 := fun y => wext_cell wd y k0
          have e7 := fun y => wext_cell wd y k1
          have e8 := fun y => wext_cell wd y k2
          by_cases c3 : q + c + s = p
          · have HUy : Hid U := hide (HU.out.2 ⟨by omega, by omega, .inl c3⟩)
            have p3 : (q + c + s == p) = true := by simp [c3]
            clear c3
            refine region_q (by kernel_rfl) (by kernel_rfl) ?_
            repeat (go_big_quiet_step ((first | (fail))))
            refine wpQuiet_nil ?_
            intro wx hbx
            go_wp2_with fail
            go_meet
            exact ⟨by rw [tb_yes HUy.out], hbx⟩
          · have p3 : (q + c + s == p) = false := by simp [c3]
            by_cases c4 : r + c + u = p
            · have HUy : Hid U := hide (HU.out.2 ⟨by omega, by omega, .inr c4⟩)
              have p4 : (r + c + u == p) = true := by simp [c4]
              clear c4
              refine region_q (by kernel_rfl) (by kernel_rfl) ?_
              repeat (go_big_quiet_step ((first | (fail))))
              refine wpQuiet_nil ?_
              intro wx hbx
              go_wp2_with fail
              go_meet
              exact ⟨by rw [tb_yes HUy.out], hbx⟩
            · have HUn : Hid (¬ U) := hide fun h => by have := HU.out.1 h; omega
              have p4 : (r + c + u == p) = false := by simp [c4]
              clear c4
              refine region_q (by kernel_rfl) (by kernel_rfl) ?_
              repeat (go_big_quiet_step ((first | (fail))))
              refine wpQuiet_nil ?_
              intro wx hbx
              go_wp2_with fail
              go_meet
              exact ⟨by rw [tb_no HUn.out], hbx⟩
        case rest =>
          obtain ⟨rfl, hbc⟩ := hcut
          go_wp2
          go_ret
          exact ⟨rfl, hbf'.trans (hbc.mono hbf'.size)⟩
end Go.Proofs.Ytbhkjeicogjfbaa
