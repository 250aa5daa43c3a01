/- The law FnRepairCritical, walked: it returns true for every two codes; DrawCritical. Conditions: none. -/
import Derived.Test.YtbhkjeicogjfbaaDrawS
import Derived.Test.YtbhkjeicogjfbaaCrit
import Derived.Test.YtbhkjeicogjfbaaStackI
import Derived.Test.YtbhkjeicogjfbaaLawH
namespace Go.Proofs.Ytbhkjeicogjfbaa
open Go.RowKit

theorem rep_crit {g : Gr} {k : Nat} (hg : GV g) (hk : k < g.ls.length) : (repL g (lkOf g k).a k (lkOf g k).b ≠ []) ↔ ¬ critP g k := by
  obtain ⟨l, hck⟩ := get_some hk
  have hlk : lkOf g (k : Int) = l := by
    have h := lk_at (g := g) (k := (k : Int)) ⟨by omega, by omega⟩
    rw [Int.toNat_natCast, hck] at h
    cases h; rfl
  have hlv := hg.lv (List.mem_of_getElem? hck)
  have hw := wo_gv hg k
  have ha : Nd (Wo g k) l.a := wo_nd.2 hlv.1
  have hb : Nd (Wo g k) l.b := wo_nd.2 hlv.2.1
  have hok : Ok g l.a (k : Int) ∧ Nd g l.b := ⟨⟨hg, ⟨by omega, by omega⟩, hlv.1⟩, hlv.2.1⟩
  unfold critP
  rw [hlk, repL, okL_yes hok, Int.toNat_natCast, pathL_ne hw hb ha, D_symm hw ha hb]
  omega
theorem crit_mem {g : Gr} {k : Nat} (hg : GV g) (hk : k < g.ls.length) : (k : Int) ∈ critL g ↔ critP g k := by
  rw [critL, okL_yes hg, selTo_mem]
  exact ⟨fun h => h.2, fun h => ⟨by omega, h⟩⟩
def DrawCPost (w : World) (e : Ending) (w' : World) : Prop :=
  ∃ (v : Value) (gr : Gr), e = .returned v ∧ OwnG w' w.heap.size v gr ∧ gr.ls.length ≤ 15 ∧ Below w.heap.size w w'
set_option maxRecDepth 100000 in
set_option maxHeartbeats 1600000 in
theorem drawC_any (v : Value) (bs : List Int) (w : World) (hv : SlR bc 1 w w.heap.size v bs) (hm : bs.length ≤ 9223372036854775807 ∧ ∀ n ∈ bs, 0 ≤ n ∧ n ≤ 255) :
    Calls Try.prog 46 #[v] w (DrawCPost w) := by
  have hb0 := below1 w (Obj.cells #[.int .i64 0, .slice none 0 0] 25)
  have HB0 := hide (Blk.new w 25 #[.int .i64 0, .slice none 0 0])
  have hv0 := hv.up hb0
  go_enter Try.func46, Try.ntmps46
  go_wp2_with fail
  refine (open_any v bs _ hv0 hm).mono ?_
  rintro e w1 ⟨g, cs, rfl, hg0, R1, hb1⟩
  have HB1 := hide (HB0.out.up hb1)
  have hb01 := hb0.trans (hb1.mono hb0.size)
  have hgl := R1.lt
  have hgw : w.heap.size < g := by have := HB0.out.lt; omega
  clear HB0 hb0 hv0 hv hb1 hg0 hm
  go_wp2_with fail
  refine (drawSpoilt_any cs g 0 _ R1 (by omega)).mono ?_
  rintro e w2 ⟨v2, gr, p2, rfl, hO2, hl2, R2, hp2, hg2⟩
  obtain ⟨A, cap, rfl⟩ := hO2.lit
  obtain ⟨x2, he, h2⟩ := hO2
  cases he
  have HB2 := hide (HB1.out.grown hg2 (by intro e; injection e; omega))
  have hb02 := hb01.grown hg2 hb01.size (fun q hq => by cases hq; omega)
  have HO := hide (h2.low (base' := w.heap.size) hb01.size)
  clear HB1 R1 h2 hg2 hgl hgw R2 hp2 hb01
  have o0 := HB2.out.cell 0
  have o1 := HB2.out.cell 1
  have y0 := HB2.out.free 0
  have y1 := HB2.out.free 1
  go_wp2_with fail
  refine bodyPost_ret (v := .agg #[.int .i64 gr.n, .slice A gr.ls.length cap]) (by simp [results, Try.results46, go_sem, o0, o1]) rfl ⟨_, gr, rfl, ⟨_, rfl, own_far' (own_far' HO.out (own_blk_ne HO.out HB2.out (by decide)) _) (own_blk_ne HO.out HB2.out (by decide)) _⟩, hl2, (hb02.setCell (Nat.le_refl _) _).setCell (Nat.le_refl _) _⟩
set_option maxRecDepth 100000 in
set_option maxHeartbeats 1600000 in
theorem lawRepairCritical (v : Value) (bs : List Int) (v' : Value) (cs : List Int) (w : World) (hv : SlR bc 1 w w.heap.size v bs) (hm : bs.length ≤ 9223372036854775807 ∧ ∀ n ∈ bs, 0 ≤ n ∧ n ≤ 255) (hv' : SlR bc 1 w w.heap.size v' cs) (hm' : cs.length ≤ 9223372036854775807 ∧ ∀ n ∈ cs, 0 ≤ n ∧ n ≤ 255) :
    Calls Try.prog 15 #[v, v'] w fun e w' => e = .returned (.bool true) ∧ Below w.heap.size w w' := by
  have hvv := hv
  obtain ⟨A, cap, rfl, hc, hr⟩ := hvv
  have hvw := hv'
  obtain ⟨A', cap', rfl, hc', hr'⟩ := hvw
  have HM := hide hm
  have HM' := hide hm'
  have hm1 := hm.1
  have hm1' := hm'.1
  clear hm hm' hr hr' hc hc'
  by_cases hl : 1048576 < bs.length
  · go_enter Try.func15, Try.ntmps15
    go_wp2
    go_ret
    exact ⟨rfl, Below.refl _ _⟩
  by_cases hl' : 1048576 < cs.length
  · go_enter Try.func15, Try.ntmps15
    go_wp2
    go_ret
    exact ⟨rfl, Below.refl _ _⟩
  go_enter Try.func15, Try.ntmps15
  go_wp2_with fail
  refine (drawC_any _ bs _ hv HM.out).mono ?_
  rintro e w1 ⟨x1, g, rfl, hO1, hl15, hb1⟩
  obtain ⟨Ag, cg, rfl⟩ := hO1.lit
  obtain ⟨X, hX⟩ : ∃ X, X = w1.heap.size := ⟨_, rfl⟩
  obtain ⟨w2, hw2⟩ : ∃ w2, w2 = w1.alloc (Obj.cells #[.int .i64 g.n, .slice Ag g.ls.length cg] 25) := ⟨_, rfl⟩
  have h12 : Below w1.heap.size w1 w2 := by rw [hw2]; exact below1 _ _
  have HX2 := hide (show Blk w2 X 25 #[.int .i64 g.n, .slice Ag g.ls.length cg] from by rw [hw2, hX]; exact Blk.new _ _ _)
  have HG2 := hide (hO1.below h12)
  have hb2 := hb1.trans (h12.mono hb1.size)
  have hn : g.ls.length ≤ 1048576 := by omega
  have c0 := HX2.out.cell 0
  have c1 := HX2.out.cell 1
  clear hO1 hb1 h12 HM HM'
  go_upto_region 4 with fail
  rw [← hw2, ← hX]
  clear hw2 hX
  obtain ⟨R, hR⟩ : ∃ R, critL g = R := ⟨_, rfl⟩
  have HR := hide hR
  have hlo : R.length ≤ 1048576 := by rw [← hR]; exact Nat.le_trans (critL_len g) (by decide)
  clear hR
  go_wp2_with fail
  refine (critical_any _ g _ HG2.out.grr hn).mono ?_
  rintro e w3 ⟨y3, rfl, hO3, hb3⟩
  rw [HR.out] at hO3
  obtain ⟨A3, k3, rfl, _, _⟩ := hO3.lit
  have HX3 := hide (HX2.out.up hb3)
  have HG3 := hide (HG2.out.below hb3)
  have hb03 := hb2.trans (hb3.mono hb2.size)
  clear c0 c1 HX2 HG2 hb2
  have c0 := HX3.out.cell 0
  have c1 := HX3.out.cell 1
  go_wp2_with fail
  refine (specCritical_any _ g _ HG3.out.grr hn).mono ?_
  rintro e w4 ⟨y4, rfl, hO4, hb4⟩
  rw [HR.out] at hO4
  obtain ⟨A4, k4, rfl, _, _⟩ := hO4.lit
  have HX4 := hide (HX3.out.up hb4)
  have HG4 := hide (HG3.out.below hb4)
  have HO4 := hide (hO3.below hb4)
  have HW4 := hide hO4
  have hb04 := hb03.trans (hb4.mono hb03.size)
  clear c0 c1 HX3 HG3 hb03 hO3 hO4 hb3 hb4
  have c0 := HX4.out.cell 0
  have c1 := HX4.out.cell 1
  go_wp2_with fail
  refine (same_any _ _ R R _ (HO4.out.slr ic_len) (HW4.out.slr ic_len) hlo hlo).mono ?_
  rintro e w5 ⟨rfl, hb5⟩
  rw [eqB_self]
  have HX5 := hide (HX4.out.up hb5)
  have HG5 := hide (HG4.out.below hb5)
  have HO5 := hide (HO4.out.below hb5)
  have HW5 := hide (HW4.out.below hb5)
  have hb05 := hb04.trans (hb5.mono hb04.size)
  clear c0 c1 HX4 HG4 HO4 HW4 hb04 hb5
  have c0 := HX5.out.cell 0
  have c1 := HX5.out.cell 1
  go_wp2_with fail
  refine (specValid_any _ g _ HG5.out.grr hn).mono ?_
  rintro e w6 ⟨rfl, hb6⟩
  have HX6 := hide (HX5.out.up hb6)
  have HG6 := hide (HG5.out.below hb6)
  have HO6 := hide (HO5.out.below hb6)
  have HW6 := hide (HW5.out.below hb6)
  have hb06 := hb05.trans (hb6.mono hb05.size)
  clear c0 c1 HX5 HG5 HO5 HW5 hb05 hb6
  have c0 := HX6.out.cell 0
  have c1 := HX6.out.cell 1
  by_cases hV' : ¬ GV g
  · rw [tb_no hV']
    clear hV'
    go_wp2_with fail
    refine (same_any _ _ R R _ (HO6.out.slr ic_len) (HW6.out.slr ic_len) hlo hlo).mono ?_
    rintro e wz ⟨rfl, hbz⟩
    rw [eqB_self]
    go_wp2
    go_ret
    exact ⟨rfl, hb06.trans (hbz.mono hb06.size)⟩
  have hV : GV g := Classical.not_not.1 hV'
  clear hV'
  rw [tb_yes hV]
  have HV := hide hV
  clear hV
  by_cases h0 : g.ls.length = 0
  · have e0 : ((g.ls.length : Int) == 0) = true := by rw [beq_iff_eq]; omega
    clear h0
    go_wp2_with fail
    refine (same_any _ _ R R _ (HO6.out.slr ic_len) (HW6.out.slr ic_len) hlo hlo).mono ?_
    rintro e wz ⟨rfl, hbz⟩
    rw [eqB_self]
    go_wp2
    go_ret
    exact ⟨rfl, hb06.trans (hbz.mono hb06.size)⟩
  have e0 : ((g.ls.length : Int) == 0) = false := by rw [beq_eq_false_iff_ne]; omega
  have e8 : ¬ ((g.ls.length : Int) = 0) := by omega
  obtain ⟨j, hj⟩ : ∃ j, j = cs.length % g.ls.length := ⟨_, rfl⟩
  have m6 : ((cs.length : Int) % (g.ls.length : Int)) = (j : Int) := by rw [hj]; simp
  have m7 : (cs.length : Int).tmod (g.ls.length : Int) = (j : Int) := by rw [Int.tmod_eq_emod_of_nonneg (by omega)]; exact m6
  have hjn : j < g.ls.length := by rw [hj]; exact Nat.mod_lt _ (by omega)
  obtain ⟨x2, he, hOL⟩ := HG6.out
  injection he with he
  obtain rfl : x2 = .slice Ag g.ls.length cg := by
    have := congrArg (fun a : Array Value => a[1]?) he
    simpa using this.symm
  obtain ⟨b0, c0', he2, _, _⟩ := hOL.form (by omega)
  obtain rfl : Ag = some ⟨b0, 0, none⟩ := by injection he2
  obtain ⟨l, hl⟩ := get_some hjn
  have hlk : lkOf g (j : Int) = l := by
    have h := lk_at (g := g) (k := (j : Int)) ⟨by omega, by omega⟩
    rw [Int.toNat_natCast, hl] at h
    cases h; rfl
  have HOL := hide hOL
  have HC : Hid (∀ W, Below w6.heap.size w6 W → W.cell? ⟨X, 0, none⟩ = some (.int .i64 g.n) ∧ W.cell? ⟨X, 1, none⟩ = some (.slice (some ⟨b0, 0, none⟩) g.ls.length cg) ∧ W.cell? ⟨b0, j * 3, none⟩ = some (.int .i64 l.a) ∧ W.cell? ⟨b0, j * 3 + 1, none⟩ = some (.int .i64 l.b)) :=
    hide fun W hW => by
      have hr := (HOL.out.below hW).rows lc_len (by omega)
      obtain ⟨g1, g2, _⟩ := linkAt hr hl
      rw [Nat.zero_add] at g1 g2
      exact ⟨(HX6.out.up hW).cell 0, (HX6.out.up hW).cell 1, g1, g2⟩
  obtain ⟨q, hq⟩ : ∃ q, tb ((j : Int) ∈ R) = q := ⟨_, rfl⟩
  have HRQ : Hid (tb (repL g l.a (j : Int) l.b ≠ []) = !q) := hide (by
    rw [← hq, not_tb, ← HR.out]
    refine tb_iff ?_
    have h1 := rep_crit HV.out hjn
    rw [hlk] at h1
    rw [h1, crit_mem HV.out hjn])
  have HHI := hide (fun W (hW : Below w6.heap.size w6 W) => hasInt_any _ R (j : Int) W ((HO6.out.below hW).slr ic_len) hlo)
  rw [hq] at HHI
  have n1 : (!q != q) = true := by cases q <;> rfl
  have hd6 := (Below.refl w6.heap.size w6).drew
  have HGd := hide (HG6.out.below hd6)
  clear hj he he2 hOL hl hlk hq HW6 h0
  go_upto_region 9 with fail
  clear m6 m7 e8 e0
  go_region_held3 (fun W => W.cell? ⟨X, 0, none⟩ = some (.int .i64 g.n) ∧ W.cell? ⟨X, 1, none⟩ = some (.slice (some ⟨b0, 0, none⟩) g.ls.length cg) ∧ W.cell? ⟨b0, j * 3, none⟩ = some (.int .i64 l.a) ∧ W.cell? ⟨b0, j * 3 + 1, none⟩ = some (.int .i64 l.b)) (first | exact HC.out _ hd6 | exact HC.out _ hB7 | fail)
    (first
      | (go_at_call 49; refine (repairStack_any _ g l.a (j : Int) l.b _ HGd.out.grr hn).mono ?_
         rintro e w7 ⟨v7, S7, rfl, hO7, hS7, hb7⟩
         rw [HRQ.out]
         have hB7 := hd6.trans hb7)
      | fail)
  all_goals
    go_wp2_with fail
    refine (HHI.out _ hB7).mono ?_
    rintro e w8 ⟨rfl, hb8⟩
    go_wp2
    go_ret
    exact ⟨rfl, hb06.trans ((hB7.trans (hb8.mono hB7.size)).mono hb06.size)⟩
end Go.Proofs.Ytbhkjeicogjfbaa
