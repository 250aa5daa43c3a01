/- Links on shortest paths, of the program and of the reference: Us. Conditions: the graph is valid, the nodes are nodes of it, the link is a link of it. -/
import Derived.Test.YtbhkjeicogjfbaaDistS
import Derived.Test.YtbhkjeicogjfbaaGraphW
import Derived.Test.YtbhkjeicogjfbaaUsed
import Derived.Deep.RegionHeld3
namespace Go.Proofs.Ytbhkjeicogjfbaa
open Go.RowKit

theorem D_at {g : Gr} {x : Int} {i : Nat} (h : (i : Int) < g.n) : (distL g x)[i]? = some (D g x i) := at_nat (by rw [distL_len]; omega)
/-- A world w above w0: box Z holds link l, v1 and v2 are slices of its own. -/
def TwoOwn (w0 w : World) (l : Lk) (Z : Nat) (v1 v2 : Value) (d1 d2 : List Int) : Prop :=
  Below w0.heap.size w0 w ∧ w0.heap.size ≤ Z ∧ Blk w Z 64 #[.int .i64 l.a, .int .i64 l.b, .int .i64 l.c] ∧ Own ic 3 1 w w0.heap.size v1 d1 ∧ Own ic 3 1 w w0.heap.size v2 d2
theorem two_new {w0 w1 : World} {l : Lk} {v1 v2 : Value} {d1 d2 : List Int} {b1 b2 : Nat} (hb : Below w0.heap.size w0 w1) (h1 : Own ic 3 1 w1 b1 v1 d1) (h2 : Own ic 3 1 w1 b2 v2 d2) (hb1 : w0.heap.size ≤ b1) (hb2 : w0.heap.size ≤ b2) :
    TwoOwn w0 (w1.alloc (.cells #[.int .i64 l.a, .int .i64 l.b, .int .i64 l.c] 64)) l w1.heap.size v1 v2 d1 d2 :=
  ⟨hb.alloc hb.size _, hb.size, Blk.new _ _ _, (h1.below (below1 w1 _)).low hb1, (h2.below (below1 w1 _)).low hb2⟩
theorem two_set {w0 w1 : World} {l : Lk} {v1 v2 : Value} {d1 d2 : List Int} {b1 b2 Z : Nat} {c : Array Value} (hb : Below w0.heap.size w0 w1) (h1 : Own ic 3 1 w1 b1 v1 d1) (h2 : Own ic 3 1 w1 b2 v2 d2) (hb1 : w0.heap.size ≤ b1) (hb2 : w0.heap.size ≤ b2)
    (hZ : Blk w1 Z 64 c) (hc : c.size = 3) (h0 : w0.heap.size ≤ Z) :
    TwoOwn w0 (((w1.setCell ⟨Z, 0, none⟩ (.int .i64 l.a)).setCell ⟨Z, 1, none⟩ (.int .i64 l.b)).setCell ⟨Z, 2, none⟩ (.int .i64 l.c)) l Z v1 v2 d1 d2 := by
  have n1 := own_blk_ne h1 hZ (by decide)
  have n2 := own_blk_ne h2 hZ (by decide)
  refine ⟨((hb.setCell h0 _).setCell h0 _).setCell h0 _, h0, ?_, (own_far' (own_far' (own_far' h1 n1 _) n1 _) n1 _).low hb1, (own_far' (own_far' (own_far' h2 n2 _) n2 _) n2 _).low hb2⟩
  obtain ⟨cl⟩ := c
  match cl, hc with
  | [x, y, z], _ => exact ((hZ.put 0 _).put 1 _).put 2 _
set_option maxRecDepth 100000 in
set_option maxHeartbeats 1600000 in
theorem l2Used_any (v : Value) (g : Gr) (f t : Int) (k : Nat) (l : Lk) (w : World) (hv : GrR w w.heap.size v g) (hg : GV g) (hf : Nd g f) (ht : Nd g t) (hl : g.ls[k]? = some l) :
    Calls Try.prog 65 #[v, .int .i64 f, .int .i64 t, .int .i64 (k : Nat)] w fun e w' => e = .returned (.bool (tb (Us g l f t))) ∧ Below w.heap.size w w' := by
  have hvv := hv
  obtain ⟨A, cap, rfl, hc, hr⟩ := hv.form
  obtain ⟨b, off, rfl, hb, hcell⟩ := hr (by have := get_lt hl; omega)
  obtain ⟨g1, g2, g3⟩ := linkAt hcell hl
  have hlv := hg.lv (List.mem_of_getElem? hl)
  have hkl := get_lt hl
  obtain ⟨hn1, hn2⟩ := hg.n
  have hlen := hg.len
  obtain ⟨la, lb, c⟩ := l
  unfold LV at hlv
  simp only at hlv g1 g2 g3
  obtain ⟨hna, hnb, l5, l6, l7⟩ := hlv
  obtain ⟨nf, rfl⟩ := Int.eq_ofNat_of_zero_le hf.1
  obtain ⟨nt, rfl⟩ := Int.eq_ofNat_of_zero_le ht.1
  obtain ⟨na, rfl⟩ := Int.eq_ofNat_of_zero_le hna.1
  obtain ⟨nb, rfl⟩ := Int.eq_ofNat_of_zero_le hnb.1
  obtain ⟨p, hp⟩ : ∃ p, p = D g nf nt := ⟨_, rfl⟩
  obtain ⟨q, hq⟩ : ∃ q, q = D g nf na := ⟨_, rfl⟩
  obtain ⟨r, hr1⟩ : ∃ r, r = D g nf nb := ⟨_, rfl⟩
  obtain ⟨s, hs1⟩ : ∃ s, s = D g nt nb := ⟨_, rfl⟩
  obtain ⟨u, hu1⟩ : ∃ u, u = D g nt na := ⟨_, rfl⟩
  obtain ⟨U, hU⟩ : ∃ U, U = Us g ⟨na, nb, c⟩ nf nt := ⟨_, rfl⟩
  have HU : Hid (U ↔ 0 ≤ p ∧ 0 ≤ q ∧ (q + c + s = p ∨ r + c + u = p)) := hide (by rw [hU, hp, hq, hr1, hs1, hu1]; exact Iff.rfl)
  have H1 : Hid ((distL g nf)[nt]? = some p) := hide (by rw [hp]; exact D_at ht.2)
  have H2 : Hid ((distL g nf)[na]? = some q) := hide (by rw [hq]; exact D_at hna.2)
  have H3 : Hid ((distL g nf)[nb]? = some r) := hide (by rw [hr1]; exact D_at hnb.2)
  have H4 : Hid ((distL g nt)[nb]? = some s) := hide (by rw [hs1]; exact D_at hnb.2)
  have H5 : Hid ((distL g nt)[na]? = some u) := hide (by rw [hu1]; exact D_at hna.2)
  have b1 : -1 ≤ p ∧ p ≤ 140 := by rw [hp]; exact ⟨D_ge hg hf ht, by have := D_few hg hf ht; omega⟩
  have b2 : -1 ≤ q ∧ q ≤ 140 := by rw [hq]; exact ⟨D_ge hg hf hna, by have := D_few hg hf hna; omega⟩
  have b3 : -1 ≤ r ∧ r ≤ 140 := by rw [hr1]; exact ⟨D_ge hg hf hnb, by have := D_few hg hf hnb; omega⟩
  have b4 : -1 ≤ s ∧ s ≤ 140 := by rw [hs1]; exact ⟨D_ge hg ht hnb, by have := D_few hg ht hnb; omega⟩
  have b5 : -1 ≤ u ∧ u ≤ 140 := by rw [hu1]; exact ⟨D_ge hg ht hna, by have := D_few hg ht hna; omega⟩
  have hw1 : IntKind.i64.wrap (q + c) = q + c := by rw [IntKind.wrap_i64]; omega
  have hw2 : IntKind.i64.wrap (q + c + s) = q + c + s := by rw [IntKind.wrap_i64]; omega
  have hw3 : IntKind.i64.wrap (r + c) = r + c := by rw [IntKind.wrap_i64]; omega
  have hw4 : IntKind.i64.wrap (r + c + u) = r + c + u := by rw [IntKind.wrap_i64]; omega
  rw [← hU]
  have hft := hf.2
  have htt := ht.2
  have hat := hna.2
  have hbt := hnb.2
  have HF := hide hf
  have HT := hide ht
  have HG := hide hg
  obtain ⟨N, hN⟩ : ∃ N : Nat, g.n = N := ⟨g.n.toNat, by omega⟩
  have hNt : g.n.toNat = N := by omega
  clear hN
  obtain ⟨wb, hwb⟩ : ∃ wb, wb = w.alloc (Obj.cells #[.int .i64 g.n, .slice (some ⟨b, off, none⟩) g.ls.length cap] 25) := ⟨_, rfl⟩
  have hbw : Below w.heap.size w wb := by rw [hwb]; exact below1 _ _
  have HB : Hid (Blk wb w.heap.size 25 #[.int .i64 g.n, .slice (some ⟨b, off, none⟩) g.ls.length cap]) := hide (by rw [hwb]; exact Blk.new _ _ _)
  have HV := hide (hvv.up hbw)
  have HLK : Hid (∀ X, Below w.heap.size w X → X.cell? ⟨b, off + k * 3, none⟩ = some (.int .i64 na) ∧ X.cell? ⟨b, off + k * 3 + 1, none⟩ = some (.int .i64 nb) ∧ X.cell? ⟨b, off + k * 3 + 2, none⟩ = some (.int .i64 c)) :=
    hide fun X hX => ⟨(hX.cell (by exact hb)).trans g1, (hX.cell (by exact hb)).trans g2, (hX.cell (by exact hb)).trans g3⟩
  have hbl : b < w.heap.size := hb
  clear hp hq hr1 hs1 hu1 hU hf ht hg hna hnb hl hr hcell hvv hv g1 g2 g3 hb
  go_enter Try.func65, Try.ntmps65
  go_wp2_with fail
  rw [← hwb]
  clear hwb
  refine (distS_any _ g _ _ HV.out HG.out HF.out).mono ?_
  rw [hNt]
  rintro e w1 ⟨o1, k1, rfl, hO1, hb1⟩
  have HB1 := hide (HB.out.up hb1)
  have HV1 := hide (HV.out.up hb1)
  have h0 := HB1.out.cell 0
  have h1 := HB1.out.cell 1
  go_wp2_with fail
  refine (distS_any _ g _ _ HV1.out HG.out HT.out).mono ?_
  rw [hNt]
  rintro e w2 ⟨o2, k2, rfl, hO2, hb2⟩
  have hb12 := hb1.trans (hb2.mono hb1.size)
  have HO1 := hide (hO1.below hb2)
  have HO2 := hide hO2
  have HB2 := hide (HB1.out.up hb2)
  have hs1 := hb1.size
  have hs2 := hb2.size
  clear h0 h1 hO1 hO2 HB1 hb1 hb2
  have h0 := HB2.out.cell 0
  have h1 := HB2.out.cell 1
  obtain ⟨g1, g2, g3⟩ := HLK.out w2 (hbw.trans (hb12.mono hbw.size))
  go_upto_region 4 with fail
  obtain ⟨wd, hwd⟩ : ∃ wd, wd = w2.alloc (Obj.cells #[.int .i64 (na : Int), .int .i64 (nb : Int), .int .i64 c] 64) := ⟨_, rfl⟩
  have HTW : Hid (TwoOwn wb wd ⟨na, nb, c⟩ w2.heap.size (.slice (some ⟨o1, 0, none⟩) N k1) (.slice (some ⟨o2, 0, none⟩) N k2) (distL g nf) (distL g nt)) :=
    hide (by rw [hwd]; exact two_new (l := ⟨(na : Int), (nb : Int), c⟩) hb12 HO1.out HO2.out (Nat.le_refl _) hs1)
  rw [← hwd]
  clear hwd h0 h1 g1 g2 g3 hb12 HO1 HO2
  obtain ⟨hbf, hZ0, hKZ, hO1, hO2⟩ := HTW.out
  have x1 := own_int hO1 H1.out
  have x2 := own_int hO1 H2.out
  have x3 := own_int hO1 H3.out
  have x4 := own_int hO2 H4.out
  have x5 := own_int hO2 H5.out
  have k0 := hKZ.cell 0
  have k1 := hKZ.cell 1
  have k2 := hKZ.cell 2
  have hbf' := hbw.trans (hbf.mono hbw.size)
  clear hO1 hO2 hKZ
  by_cases c1 : p < 0
  · have HUn : Hid (¬ U) := hide fun h => by have := HU.out.1 h; omega
    go_wp2
    go_ret
    exact ⟨ret_bool (tb_no HUn.out).symm, hbf'⟩
  · by_cases c2 : q < 0
    · have HUn : Hid (¬ U) := hide fun h => by have := HU.out.1 h; omega
      go_wp2
      go_ret
      exact ⟨ret_bool (tb_no HUn.out).symm, hbf'⟩
    · go_upto_region 6 with fail
      go_cut [8] (fun s wx => s = .bool (tb U) ∧ Below wd.heap.size wd wx)
      case first =>
        have e1 := fun y => wext_cell wd y x1
        have e2 := fun y => wext_cell wd y x2
        have e3 := fun y => wext_cell wd y x3
        have e4 := fun y => wext_cell wd y x4
        have e5 := fun y => wext_cell wd y x5
        have e6 := fun y => wext_cell wd y k0
        have e7 := fun y => wext_cell wd y k1
        have e8 := fun y => wext_cell wd y k2
        by_cases c3 : q + c + s = p
        · have HUy : Hid U := hide (HU.out.2 ⟨by omega, by omega, .inl c3⟩)
          have p3 : (q + c + s == p) = true := by simp [c3]
          clear c3
          refine region_q (by kernel_rfl) (by kernel_rfl) ?_
          repeat (go_big_quiet_step ((first | (fail))))
          refine wpQuiet_nil ?_
          intro wx hbx
          go_wp2_with fail
          go_meet
          exact ⟨by rw [tb_yes HUy.out], hbx⟩
        · have p3 : (q + c + s == p) = false := by simp [c3]
          by_cases c4 : r + c + u = p
          · have HUy : Hid U := hide (HU.out.2 ⟨by omega, by omega, .inr c4⟩)
            have p4 : (r + c + u == p) = true := by simp [c4]
            clear c4
            refine region_q (by kernel_rfl) (by kernel_rfl) ?_
            repeat (go_big_quiet_step ((first | (fail))))
            refine wpQuiet_nil ?_
            intro wx hbx
            go_wp2_with fail
            go_meet
            exact ⟨by rw [tb_yes HUy.out], hbx⟩
          · have HUn : Hid (¬ U) := hide fun h => by have := HU.out.1 h; omega
            have p4 : (r + c + u == p) = false := by simp [c4]
            clear c4
            refine region_q (by kernel_rfl) (by kernel_rfl) ?_
            repeat (go_big_quiet_step ((first | (fail))))
            refine wpQuiet_nil ?_
            intro wx hbx
            go_wp2_with fail
            go_meet
            exact ⟨by rw [tb_no HUn.out], hbx⟩
      case rest =>
        obtain ⟨rfl, hbc⟩ := hcut
        go_wp2
        go_ret
        exact ⟨rfl, hbf'.trans (hbc.mono hbf'.size)⟩
end Go.Proofs.Ytbhkjeicogjfbaa
