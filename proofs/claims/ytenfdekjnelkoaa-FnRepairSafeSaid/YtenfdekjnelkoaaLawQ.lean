/- The law FnRepairSafe, walked: it returns true for every code. Conditions: none. -/
import Derived.Test.YtenfdekjnelkoaaDrawR
import Derived.Test.YtenfdekjnelkoaaStackS
import Derived.Test.YtenfdekjnelkoaaLbW
import Derived.Test.YtenfdekjnelkoaaLawH
import Derived.Test.YtenfdekjnelkoaaExG
namespace Go.Proofs.Ytenfdekjnelkoaa
open Go.RowKit
theorem path_ends {g : Gr} {k t f : Int} {P : List Int} (h : Pt (Wo g k.toNat) t f P) (hne : f ≠ t) : 2 ≤ P.length := by
  cases h with
  | done => exact absurd rfl hne
  | step h1 h2 h3 => have := h3.head.2; simp; omega
set_option maxRecDepth 100000 in
set_option maxHeartbeats 1600000 in
theorem lawRepairSafe (v : Value) (bs : List Int) (w : World) (hv : SlR bc 1 w w.heap.size v bs) (hm : bs.length ≤ 9223372036854775807 ∧ ∀ n ∈ bs, 0 ≤ n ∧ n ≤ 255) :
    Calls Try.prog 9 #[v] w fun e w' => e = .returned (.bool true) ∧ Below w.heap.size w w' := by
  by_cases hl : 1048576 < bs.length
  · obtain ⟨A, cap, rfl, hc, hr⟩ := hv
    clear hr hm
    go_enter Try.func9, Try.ntmps9
    go_wp2
    go_ret
    exact ⟨rfl, Below.refl _ _⟩
  have hvv := hv
  obtain ⟨A, cap, rfl, hc, hr⟩ := hvv
  have HM := hide hm
  clear hm hr hc
  go_enter Try.func9, Try.ntmps9
  go_wp2_with fail
  refine (drawRS4_any _ bs _ hv HM.out).mono ?_
  rintro e w1 ⟨x1, g, f, k, t, rfl, hO1, hl15, hb1⟩
  obtain ⟨Ag, cg, rfl⟩ := hO1.lit
  obtain ⟨X, hX⟩ : ∃ X, X = w1.heap.size := ⟨_, rfl⟩
  obtain ⟨w2, hw2⟩ : ∃ w2, w2 = w1.alloc (Obj.cells #[.int .i64 g.n, .slice Ag g.ls.length cg] 25) := ⟨_, rfl⟩
  have h12 : Below w1.heap.size w1 w2 := by rw [hw2]; exact below1 _ _
  have HX2 := hide (show Blk w2 X 25 #[.int .i64 g.n, .slice Ag g.ls.length cg] from by rw [hw2, hX]; exact Blk.new _ _ _)
  have HG2 := hide (hO1.grr.up h12)
  have hb2 := hb1.trans (h12.mono hb1.size)
  have hn : g.ls.length ≤ 1048576 := by omega
  have c0 := HX2.out.cell 0
  have c1 := HX2.out.cell 1
  clear hO1 hb1 h12 HM
  go_upto_region 4 with fail
  rw [← hw2, ← hX]
  clear hw2 hX
  obtain ⟨bv, hbv⟩ : ∃ bv, tb (repL g f k t ≠ []) = bv := ⟨_, rfl⟩
  have HBV := hide hbv
  clear hbv
  go_wp2_with fail
  refine (repairStack_any _ g f k t _ HG2.out hn).mono ?_
  rintro e w3 ⟨y3, S, rfl, hO3, hR3, hb3⟩
  rw [HBV.out]
  obtain ⟨A3, k3, rfl, _, _⟩ := hO3.lit
  have HX3 := hide (HX2.out.up hb3)
  have HG3 := hide (HG2.out.up hb3)
  have HR := hide hR3
  have hb03 := hb2.trans (hb3.mono hb2.size)
  clear c0 c1 HX2 HG2 hb2
  have c0 := HX3.out.cell 0
  have c1 := HX3.out.cell 1
  go_wp2_with fail
  refine (specStack_any _ g f k t _ HG3.out hn).mono ?_
  rintro e w4 ⟨y4, S4, rfl, hO4, hR4, hb4⟩
  rw [HBV.out]
  obtain rfl : S4 = S := (hR4.uniq hR3).1
  obtain ⟨A4, k4, rfl, _, _⟩ := hO4.lit
  have hlo : S4.length ≤ 7 := hR3.len
  have hlo' : S4.length ≤ 1048576 := by omega
  have HX4 := hide (HX3.out.up hb4)
  have HG4 := hide (HG3.out.up hb4)
  have HO4 := hide (hO3.below hb4)
  have HW4 := hide hO4
  have hb04 := hb03.trans (hb4.mono hb03.size)
  clear c0 c1 HX3 HG3 hb03 hO3 hO4 hb3 hb4 hR3 hR4
  have c0 := HX4.out.cell 0
  have c1 := HX4.out.cell 1
  have n1 : (bv != bv) = false := by simp
  have n2 : (bv == bv) = true := by simp
  by_cases hp0 : repL g f k t = []
  · have hbf : bv = false := by rw [← HBV.out, tb_no (fun h : repL g f k t ≠ [] => h hp0)]
    subst hbf
    clear hp0
    go_wp2_with fail
    refine (sameL_any _ _ S4 S4 _ (HO4.out.slr lbc_len) (HW4.out.slr lbc_len) hlo' hlo').mono ?_
    rintro e w5 ⟨rfl, hb5⟩
    rw [eqB_self]
    have HX5 := hide (HX4.out.up hb5)
    have HG5 := hide (HG4.out.up hb5)
    have HO5 := hide (HO4.out.below hb5)
    have HW5 := hide (HW4.out.below hb5)
    have hb05 := hb04.trans (hb5.mono hb04.size)
    clear c0 c1 HX4 HG4 HO4 HW4 hb04 hb5
    have c0 := HX5.out.cell 0
    have c1 := HX5.out.cell 1
    go_wp2_with fail
    refine (sameL_any _ _ S4 S4 _ (HO5.out.slr lbc_len) (HW5.out.slr lbc_len) hlo' hlo').mono ?_
    rintro e wz ⟨rfl, hbz⟩
    rw [eqB_self]
    go_wp2
    go_ret
    exact ⟨rfl, hb05.trans (hbz.mono hb05.size)⟩
  have hbf : bv = true := by rw [← HBV.out, tb_yes hp0]
  subst hbf
  have HRP := hide (repL_pt hp0)
  have HGD := hide (HR.out.1 hp0).2
  obtain ⟨P, hP⟩ : ∃ P, P = repL g f k t := ⟨_, rfl⟩
  rw [← hP] at HRP HGD hp0
  have HP := hide hP
  have HP0 := hide hp0
  have hP8 : P.length ≤ 8 := by rw [hP]; exact repL_len g f k t
  have hPp : 0 < P.length := List.length_pos_iff.2 hp0
  clear hP hp0
  go_wp2_with fail
  refine (sameL_any _ _ S4 S4 _ (HO4.out.slr lbc_len) (HW4.out.slr lbc_len) hlo' hlo').mono ?_
  rintro e w5 ⟨rfl, hb5⟩
  rw [eqB_self]
  have HX5 := hide (HX4.out.up hb5)
  have HG5 := hide (HG4.out.up hb5)
  have HO5 := hide (HO4.out.below hb5)
  have HW5 := hide (HW4.out.below hb5)
  have hb05 := hb04.trans (hb5.mono hb04.size)
  clear c0 c1 HX4 HG4 HO4 HW4 hb04 hb5
  have c0 := HX5.out.cell 0
  have c1 := HX5.out.cell 1
  by_cases hft : f = t
  · have e0 : (f == t) = true := by rw [beq_iff_eq]; exact hft
    clear hft
    go_wp2_with fail
    refine (sameL_any _ _ S4 S4 _ (HO5.out.slr lbc_len) (HW5.out.slr lbc_len) hlo' hlo').mono ?_
    rintro e wz ⟨rfl, hbz⟩
    rw [eqB_self]
    go_wp2
    go_ret
    exact ⟨rfl, hb05.trans (hbz.mono hb05.size)⟩
  have e0 : (f == t) = false := by rw [beq_eq_false_iff_ne]; exact hft
  have h2 := path_ends HRP.out.2 hft
  have hsh := HGD.out.short HRP.out.2.head.1 HRP.out.2.last h2
  obtain ⟨L, hL⟩ : ∃ L, L = safeL g f k := ⟨_, rfl⟩
  have hLl : L.length ≤ 1048576 := by rw [hL]; exact Nat.le_trans (safeL_len g f k) (by decide)
  have hmem : t ∈ L ↔ Sf g (lkOf g k) f t := by
    have h1 := HRP.out.1.2
    have h3 := HRP.out.1.1.1.n
    unfold Nd at h1
    rw [hL, safeL, okL_yes HRP.out.1.1, selTo_mem]
    exact ⟨fun h => h.2, fun h => ⟨by omega, h⟩⟩
  go_wp2_with fail
  refine (repairSafe_any _ g f k _ HG5.out hn).mono ?_
  rintro e w6 ⟨y6, rfl, hO6, hb6⟩
  rw [← hL] at hO6
  obtain ⟨A6, k6, rfl, _, _⟩ := hO6.lit
  have HO6 := hide hO6
  have hb06 := hb05.trans (hb6.mono hb05.size)
  have HL6 := hide (HO5.out.below hb6)
  clear hO6 hb6 c0 c1 hft hL
  go_wp2_with fail
  refine (hasInt_any _ L t _ (HO6.out.slr ic_len) hLl).mono ?_
  rintro e w7 ⟨rfl, hb7⟩
  have HL7 := hide (HL6.out.below hb7)
  have hb07 := hb06.trans (hb7.mono hb06.size)
  by_cases hs : Sf g (lkOf g k) f t
  · rw [tb_yes (hmem.2 hs)]
    have hS := hsh.1 hs
    subst hS
    obtain ⟨o3, k3', he, _, _⟩ := HL7.out.form (by simp)
    cases he
    obtain ⟨d1, d2⟩ := labAt (HL7.out.rows lbc_len (by simp)) (show ([⟨1, t⟩] : List Lb)[0]? = some ⟨1, t⟩ from rfl)
    rw [Nat.zero_mul, Nat.zero_add] at d1 d2
    have hnq := fun W => eqLb ⟨1, t⟩ ⟨1, t⟩ W
    have hgd := guardLb
    rw [eqB_self] at hnq
    have n4 : ((1 : Int) == 1) = true := rfl
    clear hsh hmem hs
    go_wp2
    go_ret
    exact ⟨rfl, hb07⟩
  · rw [tb_no (fun h => hs (hmem.1 h))]
    rcases hsh.2 hs with h1 | ⟨b, T, hS, hk2⟩
    · have n4 : decide (1 < S4.length) = true := decide_eq_true h1
      have n5 : decide ((1 : Int) < (S4.length : Int)) = true := decide_eq_true (by omega)
      clear hsh hmem hs
      go_wp2
      go_ret
      exact ⟨rfl, hb07⟩
    · subst hS
      obtain ⟨bk, ba⟩ := b
      simp only at hk2
      subst hk2
      obtain ⟨o3, k3', he, _, _⟩ := HL7.out.form (by simp)
      cases he
      obtain ⟨d1, d2⟩ := labAt (HL7.out.rows lbc_len (by simp)) (show ((⟨2, ba⟩ :: T : List Lb))[0]? = some ⟨2, ba⟩ from rfl)
      rw [Nat.zero_mul, Nat.zero_add] at d1 d2
      have hps : 0 < ((⟨2, ba⟩ :: T : List Lb)).length := by simp
      obtain ⟨M, hM⟩ : ∃ M, M = ((⟨2, ba⟩ :: T : List Lb)).length := ⟨_, rfl⟩
      rw [← hM] at hps hlo hlo'
      rw [← hM]
      clear hsh hmem hs hM
      by_cases h1 : 1 < M
      · have n4 : decide (1 < M) = true := decide_eq_true h1
        go_wp2
        go_ret
        exact ⟨rfl, hb07⟩
      · have n4 : decide (1 < M) = false := decide_eq_false h1
        go_wp2
        go_ret
        exact ⟨rfl, hb07⟩
end Go.Proofs.Ytenfdekjnelkoaa
