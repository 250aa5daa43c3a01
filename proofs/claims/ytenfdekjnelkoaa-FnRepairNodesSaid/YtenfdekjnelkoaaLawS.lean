/- The laws FnRepair and FnRepairNodes, walked: they return true for every code. Conditions: none. -/
import Derived.Test.YtenfdekjnelkoaaDrawR
import Derived.Test.YtenfdekjnelkoaaStackS
import Derived.Test.YtenfdekjnelkoaaLbW
import Derived.Test.YtenfdekjnelkoaaLawH
import Derived.Test.YtenfdekjnelkoaaExG
import Derived.Test.YtenfdekjnelkoaaUse
namespace Go.Proofs.Ytenfdekjnelkoaa
open Go.RowKit
/-- The stack of a repair: its nodes, and what each label is. -/
theorem rep_sn {g : Gr} {f k t : Int} {P : List Int} {S : List Lb} (hk : (Ok g f k ∧ Nd g t) ∧ Pt (Wo g k.toNat) t f P) (hgd : Gd g (lkOf g k) P 0 S) :
    ∃ L, Sn g f S L ∧ L[S.length]? = some t ∧ ∀ (i : Nat) (b : Lb) (a z : Int), S[i]? = some b → L[i]? = some a → L[i + 1]? = some z →
      (b.k = 1 ∧ b.a = z ∧ Nd g a ∧ Nd g z ∧ Sf g (lkOf g k) a z) ∨ (b.k = 2 ∧ ∃ (j : Nat) (m : Lk), b.a = (j : Int) ∧ g.ls[j]? = some m ∧ j ≠ k.toNat ∧ Jn m a z) :=
  (hgd.good hk.1.1.1 (lk_at hk.1.1.2.1) hk.1.2 hk.2 hk.2.head.1).sn hk.1.2
theorem rep_nox {g : Gr} {k : Int} {S : List Lb} {L : List Int} (hk : Ix g k) (h : ∀ (i : Nat) (b : Lb) (a z : Int), S[i]? = some b → L[i]? = some a → L[i + 1]? = some z →
      (b.k = 1 ∧ b.a = z ∧ Nd g a ∧ Nd g z ∧ Sf g (lkOf g k) a z) ∨ (b.k = 2 ∧ ∃ (j : Nat) (m : Lk), b.a = (j : Int) ∧ g.ls[j]? = some m ∧ j ≠ k.toNat ∧ Jn m a z)) : NoX g k S L := fun i b a z hb ha hz => by
  rcases h i b a z hb ha hz with ⟨h1, _, h3, h4, h5⟩ | ⟨h1, j, m, h2, _, h3, _⟩
  · exact .inl ⟨h1, h3, h4, h5.2⟩
  · have := hk.1
    exact .inr ⟨h1, by omega⟩
set_option maxRecDepth 100000 in
set_option maxHeartbeats 1600000 in
theorem lawRepair (v : Value) (bs : List Int) (w : World) (hv : SlR bc 1 w w.heap.size v bs) (hm : bs.length ≤ 9223372036854775807 ∧ ∀ n ∈ bs, 0 ≤ n ∧ n ≤ 255) :
    Calls Try.prog 11 #[v] w fun e w' => e = .returned (.bool true) ∧ Below w.heap.size w w' := by
  by_cases hl : 1048576 < bs.length
  · obtain ⟨A, cap, rfl, hc, hr⟩ := hv
    clear hr hm
    go_enter Try.func11, Try.ntmps11
    go_wp2
    go_ret
    exact ⟨rfl, Below.refl _ _⟩
  have hvv := hv
  obtain ⟨A, cap, rfl, hc, hr⟩ := hvv
  have HM := hide hm
  clear hm hr hc
  go_enter Try.func11, Try.ntmps11
  go_wp2_with fail
  refine (drawRS4_any _ bs _ hv HM.out).mono ?_
  rintro e w1 ⟨x1, g, f, k, t, rfl, hO1, hl15, hb1⟩
  obtain ⟨Ag, cg, rfl⟩ := hO1.lit
  obtain ⟨X, hX⟩ : ∃ X, X = w1.heap.size := ⟨_, rfl⟩
  obtain ⟨w2, hw2⟩ : ∃ w2, w2 = w1.alloc (Obj.cells #[.int .i64 g.n, .slice Ag g.ls.length cg] 25) := ⟨_, rfl⟩
  have h12 : Below w1.heap.size w1 w2 := by rw [hw2]; exact below1 _ _
  have HX2 := hide (show Blk w2 X 25 #[.int .i64 g.n, .slice Ag g.ls.length cg] from by rw [hw2, hX]; exact Blk.new _ _ _)
  have HG2 := hide (hO1.grr.up h12)
  have hb2 := hb1.trans (h12.mono hb1.size)
  have hn : g.ls.length ≤ 1048576 := by omega
  have c0 := HX2.out.cell 0
  have c1 := HX2.out.cell 1
  clear hO1 hb1 h12 HM
  go_upto_region 4 with fail
  rw [← hw2, ← hX]
  clear hw2 hX
  obtain ⟨bv, hbv⟩ : ∃ bv, tb (repL g f k t ≠ []) = bv := ⟨_, rfl⟩
  have HBV := hide hbv
  clear hbv
  go_wp2_with fail
  refine (repairStack_any _ g f k t _ HG2.out hn).mono ?_
  rintro e w3 ⟨y3, S, rfl, hO3, hR3, hb3⟩
  rw [HBV.out]
  obtain ⟨A3, k3, rfl, _, _⟩ := hO3.lit
  have HX3 := hide (HX2.out.up hb3)
  have HG3 := hide (HG2.out.up hb3)
  have HR := hide hR3
  have hb03 := hb2.trans (hb3.mono hb2.size)
  clear c0 c1 HX2 HG2 hb2
  have c0 := HX3.out.cell 0
  have c1 := HX3.out.cell 1
  go_wp2_with fail
  refine (specStack_any _ g f k t _ HG3.out hn).mono ?_
  rintro e w4 ⟨y4, S4, rfl, hO4, hR4, hb4⟩
  rw [HBV.out]
  obtain rfl : S4 = S := (hR4.uniq hR3).1
  obtain ⟨A4, k4, rfl, _, _⟩ := hO4.lit
  have hlo : S4.length ≤ 7 := hR3.len
  have hlo' : S4.length ≤ 1048576 := by omega
  have HX4 := hide (HX3.out.up hb4)
  have HG4 := hide (HG3.out.up hb4)
  have HO4 := hide (hO3.below hb4)
  have HW4 := hide hO4
  have hb04 := hb03.trans (hb4.mono hb03.size)
  clear c0 c1 HX3 HG3 hb03 hO3 hO4 hb3 hb4 hR3 hR4
  have c0 := HX4.out.cell 0
  have c1 := HX4.out.cell 1
  have n1 : (bv != bv) = false := by simp
  have n2 : (bv == bv) = true := by simp
  by_cases hp0 : repL g f k t = []
  · have hbf : bv = false := by rw [← HBV.out, tb_no (fun h : repL g f k t ≠ [] => h hp0)]
    subst hbf
    clear hp0
    go_wp2_with fail
    refine (sameL_any _ _ S4 S4 _ (HO4.out.slr lbc_len) (HW4.out.slr lbc_len) hlo' hlo').mono ?_
    rintro e w5 ⟨rfl, hb5⟩
    rw [eqB_self]
    have HX5 := hide (HX4.out.up hb5)
    have HG5 := hide (HG4.out.up hb5)
    have HO5 := hide (HO4.out.below hb5)
    have HW5 := hide (HW4.out.below hb5)
    have hb05 := hb04.trans (hb5.mono hb04.size)
    clear c0 c1 HX4 HG4 HO4 HW4 hb04 hb5
    have c0 := HX5.out.cell 0
    have c1 := HX5.out.cell 1
    go_wp2_with fail
    refine (sameL_any _ _ S4 S4 _ (HO5.out.slr lbc_len) (HW5.out.slr lbc_len) hlo' hlo').mono ?_
    rintro e wz ⟨rfl, hbz⟩
    rw [eqB_self]
    go_wp2
    go_ret
    exact ⟨rfl, hb05.trans (hbz.mono hb05.size)⟩
  have hbf : bv = true := by rw [← HBV.out, tb_yes hp0]
  subst hbf
  have HRP := hide (repL_pt hp0)
  have HGD := hide (HR.out.1 hp0).2
  obtain ⟨P, hP⟩ : ∃ P, P = repL g f k t := ⟨_, rfl⟩
  rw [← hP] at HRP HGD hp0
  have HP := hide hP
  have HP0 := hide hp0
  have hP8 : P.length ≤ 8 := by rw [hP]; exact repL_len g f k t
  have hPp : 0 < P.length := List.length_pos_iff.2 hp0
  clear hP hp0
  go_wp2_with fail
  refine (sameL_any _ _ S4 S4 _ (HO4.out.slr lbc_len) (HW4.out.slr lbc_len) hlo' hlo').mono ?_
  rintro e w5 ⟨rfl, hb5⟩
  rw [eqB_self]
  have HX5 := hide (HX4.out.up hb5)
  have HG5 := hide (HG4.out.up hb5)
  have HO5 := hide (HO4.out.below hb5)
  have HW5 := hide (HW4.out.below hb5)
  have hb05 := hb04.trans (hb5.mono hb04.size)
  clear c0 c1 HX4 HG4 HO4 HW4 hb04 hb5
  have c0 := HX5.out.cell 0
  have c1 := HX5.out.cell 1
  obtain ⟨L, hsn, hlast, hparts⟩ := rep_sn HRP.out HGD.out
  have HSN := hide hsn
  have HLAST := hide hlast
  have HPARTS := hide hparts
  clear hsn hlast hparts
  have e0 : (t == t) = true := by simp
  have HNX := hide (rep_nox HRP.out.1.1.2.1 HPARTS.out)
  go_wp2_with fail
  refine (stackEnd_any _ _ g f t S4 L _ HG5.out hn HRP.out.1.1.1 (HO5.out.slr lbc_len) (by omega) HSN.out HLAST.out).mono ?_
  rintro e w6 ⟨rfl, hb6⟩
  have hb06 := hb05.trans (hb6.mono hb05.size)
  have HX6 := hide (HX5.out.up hb6)
  have HG6 := hide (HG5.out.up hb6)
  have HO6 := hide (HO5.out.below hb6)
  clear c0 c1 HX5 HG5 HO5 HW5 hb05 hb6
  have c0 := HX6.out.cell 0
  have c1 := HX6.out.cell 1
  go_wp2_with fail
  refine (stackCrosses_any _ _ g f k S4 L _ HG6.out hn HRP.out.1.1.1 HRP.out.1.1.2.1 (HO6.out.slr lbc_len) (by omega) HSN.out HNX.out).mono ?_
  rintro e w7 ⟨rfl, hb7⟩
  go_wp2
  go_ret
  exact ⟨rfl, hb06.trans (hb7.mono hb06.size)⟩
set_option maxRecDepth 100000 in
set_option maxHeartbeats 1600000 in
theorem lawRepairNodes (v : Value) (bs : List Int) (w : World) (hv : SlR bc 1 w w.heap.size v bs) (hm : bs.length ≤ 9223372036854775807 ∧ ∀ n ∈ bs, 0 ≤ n ∧ n ≤ 255) :
    Calls Try.prog 14 #[v] w fun e w' => e = .returned (.bool true) ∧ Below w.heap.size w w' := by
  by_cases hl : 1048576 < bs.length
  · obtain ⟨A, cap, rfl, hc, hr⟩ := hv
    clear hr hm
    go_enter Try.func14, Try.ntmps14
    go_wp2
    go_ret
    exact ⟨rfl, Below.refl _ _⟩
  have hvv := hv
  obtain ⟨A, cap, rfl, hc, hr⟩ := hvv
  have HM := hide hm
  clear hm hr hc
  go_enter Try.func14, Try.ntmps14
  go_wp2_with fail
  refine (drawRS4_any _ bs _ hv HM.out).mono ?_
  rintro e w1 ⟨x1, g, f, k, t, rfl, hO1, hl15, hb1⟩
  obtain ⟨Ag, cg, rfl⟩ := hO1.lit
  obtain ⟨X, hX⟩ : ∃ X, X = w1.heap.size := ⟨_, rfl⟩
  obtain ⟨w2, hw2⟩ : ∃ w2, w2 = w1.alloc (Obj.cells #[.int .i64 g.n, .slice Ag g.ls.length cg] 25) := ⟨_, rfl⟩
  have h12 : Below w1.heap.size w1 w2 := by rw [hw2]; exact below1 _ _
  have HX2 := hide (show Blk w2 X 25 #[.int .i64 g.n, .slice Ag g.ls.length cg] from by rw [hw2, hX]; exact Blk.new _ _ _)
  have HG2 := hide (hO1.grr.up h12)
  have hb2 := hb1.trans (h12.mono hb1.size)
  have hn : g.ls.length ≤ 1048576 := by omega
  have c0 := HX2.out.cell 0
  have c1 := HX2.out.cell 1
  clear hO1 hb1 h12 HM
  go_upto_region 4 with fail
  rw [← hw2, ← hX]
  clear hw2 hX
  obtain ⟨bv, hbv⟩ : ∃ bv, tb (repL g f k t ≠ []) = bv := ⟨_, rfl⟩
  have HBV := hide hbv
  clear hbv
  go_wp2_with fail
  refine (repairStack_any _ g f k t _ HG2.out hn).mono ?_
  rintro e w3 ⟨y3, S, rfl, hO3, hR3, hb3⟩
  rw [HBV.out]
  obtain ⟨A3, k3, rfl, _, _⟩ := hO3.lit
  have HX3 := hide (HX2.out.up hb3)
  have HG3 := hide (HG2.out.up hb3)
  have HR := hide hR3
  have hb03 := hb2.trans (hb3.mono hb2.size)
  clear c0 c1 HX2 HG2 hb2
  have c0 := HX3.out.cell 0
  have c1 := HX3.out.cell 1
  go_wp2_with fail
  refine (specStack_any _ g f k t _ HG3.out hn).mono ?_
  rintro e w4 ⟨y4, S4, rfl, hO4, hR4, hb4⟩
  rw [HBV.out]
  obtain rfl : S4 = S := (hR4.uniq hR3).1
  obtain ⟨A4, k4, rfl, _, _⟩ := hO4.lit
  have hlo : S4.length ≤ 7 := hR3.len
  have hlo' : S4.length ≤ 1048576 := by omega
  have HX4 := hide (HX3.out.up hb4)
  have HG4 := hide (HG3.out.up hb4)
  have HO4 := hide (hO3.below hb4)
  have HW4 := hide hO4
  have hb04 := hb03.trans (hb4.mono hb03.size)
  clear c0 c1 HX3 HG3 hb03 hO3 hO4 hb3 hb4 hR3 hR4
  have c0 := HX4.out.cell 0
  have c1 := HX4.out.cell 1
  have n1 : (bv != bv) = false := by simp
  have n2 : (bv == bv) = true := by simp
  by_cases hp0 : repL g f k t = []
  · have hbf : bv = false := by rw [← HBV.out, tb_no (fun h : repL g f k t ≠ [] => h hp0)]
    subst hbf
    clear hp0
    go_wp2_with fail
    refine (sameL_any _ _ S4 S4 _ (HO4.out.slr lbc_len) (HW4.out.slr lbc_len) hlo' hlo').mono ?_
    rintro e w5 ⟨rfl, hb5⟩
    rw [eqB_self]
    have HX5 := hide (HX4.out.up hb5)
    have HG5 := hide (HG4.out.up hb5)
    have HO5 := hide (HO4.out.below hb5)
    have HW5 := hide (HW4.out.below hb5)
    have hb05 := hb04.trans (hb5.mono hb04.size)
    clear c0 c1 HX4 HG4 HO4 HW4 hb04 hb5
    have c0 := HX5.out.cell 0
    have c1 := HX5.out.cell 1
    go_wp2_with fail
    refine (sameL_any _ _ S4 S4 _ (HO5.out.slr lbc_len) (HW5.out.slr lbc_len) hlo' hlo').mono ?_
    rintro e wz ⟨rfl, hbz⟩
    rw [eqB_self]
    go_wp2
    go_ret
    exact ⟨rfl, hb05.trans (hbz.mono hb05.size)⟩
  have hbf : bv = true := by rw [← HBV.out, tb_yes hp0]
  subst hbf
  have HRP := hide (repL_pt hp0)
  have HGD := hide (HR.out.1 hp0).2
  obtain ⟨P, hP⟩ : ∃ P, P = repL g f k t := ⟨_, rfl⟩
  rw [← hP] at HRP HGD hp0
  have HP := hide hP
  have HP0 := hide hp0
  have hP8 : P.length ≤ 8 := by rw [hP]; exact repL_len g f k t
  have hPp : 0 < P.length := List.length_pos_iff.2 hp0
  clear hP hp0
  go_wp2_with fail
  refine (sameL_any _ _ S4 S4 _ (HO4.out.slr lbc_len) (HW4.out.slr lbc_len) hlo' hlo').mono ?_
  rintro e w5 ⟨rfl, hb5⟩
  rw [eqB_self]
  have HX5 := hide (HX4.out.up hb5)
  have HG5 := hide (HG4.out.up hb5)
  have HO5 := hide (HO4.out.below hb5)
  have HW5 := hide (HW4.out.below hb5)
  have hb05 := hb04.trans (hb5.mono hb04.size)
  clear c0 c1 HX4 HG4 HO4 HW4 hb04 hb5
  have c0 := HX5.out.cell 0
  have c1 := HX5.out.cell 1
  obtain ⟨L, hsn, hlast, hparts⟩ := rep_sn HRP.out HGD.out
  have HSN := hide hsn
  have HLAST := hide hlast
  have HPARTS := hide hparts
  clear hsn hlast hparts
  go_upto_region 10 with fail
  clear c0 c1
  have HL0 : Hid (L[0]? = some f) := hide HSN.out.head
  go_loopg [11, 12] (S4.length) (fun gg av iv wr => ∃ (i : Nat) (a : Int), i + gg = S4.length ∧ Hid (L[i]? = some a) ∧ av = .int .i64 a ∧ iv = .int .i64 i ∧ Below w5.heap.size w5 wr)
  case atStart => exact ⟨0, f, by omega, HL0, rfl, rfl, Below.refl _ _⟩
  case round =>
    obtain ⟨i, a, hi, HA, rfl, rfl, hbe⟩ := hrel
    by_cases hlt : i < S4.length
    · obtain ⟨b, hb⟩ := get_some hlt
      obtain ⟨a', z, ha', hz, hst⟩ := HSN.out.at hb
      obtain rfl : a' = a := by rw [HA.out] at ha'; cases ha'; rfl
      have hpt := HPARTS.out i b a' z hb ha' hz
      have HZ : Hid (L[i + 1]? = some z) := hide hz
      have HST := hide hst
      obtain ⟨o3, cp3, he, _, _⟩ := HO5.out.form (by omega)
      have hA3 : A3 = some ⟨o3, 0, none⟩ := by injection he
      subst hA3
      have hk3 : S4.length ≤ k3 := by
        obtain ⟨A', c', h1, h2, _⟩ := HO5.out.slr lbc_len
        cases h1
        exact h2
      have hki : ¬ k3 = i := by omega
      have hki2 : i < k3 := by omega
      have hki3 : i + 1 ≤ k3 := by omega
      have hki4 : (i : Int) ≤ (i : Int) + 1 := by omega
      have hki5 : (i : Int) + 1 ≤ (k3 : Int) := by omega
      have hw1 : IntKind.i64.wrap ((i : Int) + 1) = (i : Int) + 1 := by rw [IntKind.wrap_i64]; omega
      have HSL : Hid (∀ W, Below w5.heap.size w5 W → SlR lbc 2 W W.heap.size (.slice (some ⟨o3, i * 2, none⟩) 1 (k3 - i)) [b]) := hide fun W hW => by
        have h1 := ((HO5.out.below hW).slr lbc_len).drop (k := i) (c := k3 - i) (by omega) (by omega)
        have h2 := h1.take (k := 1) (by rw [List.length_drop]; omega)
        have h3 : (S4.drop i).take 1 = [b] := by
          rw [List.drop_eq_getElem_cons hlt]
          rw [List.getElem?_eq_getElem hlt] at hb
          injection hb with hb
          rw [hb]; rfl
        rw [h3, Nat.zero_add] at h2
        exact h2
      have hcl : ∀ W, Below w5.heap.size w5 W → W.cell? ⟨o3, i * 2, none⟩ = some (.int .i64 b.k) ∧ W.cell? ⟨o3, i * 2 + 1, none⟩ = some (.int .i64 b.a) := fun W hW => by
        have h := labAt ((HO5.out.below hW).rows lbc_len (by omega)) hb
        rw [Nat.zero_add] at h
        exact h
      have HCL := hide hcl
      clear hcl he hst ha' hz
      rcases hpt with ⟨h1, h2, h3, h4, h5⟩ | ⟨h1, _⟩
      · have HMEM : Hid (b.a ∈ safeL g a' k) := hide (by
          have hn0 := HRP.out.1.1.1.n
          unfold Nd at h4
          rw [safeL, okL_yes ⟨HRP.out.1.1.1, HRP.out.1.1.2.1, h3⟩, selTo_mem, h2]
          exact ⟨by omega, h5⟩)
        have hcl := HCL.out wr hbe
        have hd0 := (Below.refl wr.heap.size wr).drew
        have hbd := hbe.trans (hd0.mono hbe.size)
        have d1 := hcl.1
        have d2 := hcl.2
        have x0 := (HX5.out.up hbe).cell 0
        have x1 := (HX5.out.up hbe).cell 1
        have hLs : (safeL g a' k).length ≤ 1048576 := Nat.le_trans (safeL_len g a' k) (by decide)
        have HBK : Hid (b.k = 1) := hide h1
        rw [h1] at d1
        clear hcl
        have HC : Hid (∀ W, Below w5.heap.size w5 W → W.cell? ⟨X, 0, none⟩ = some (.int .i64 g.n) ∧ W.cell? ⟨X, 1, none⟩ = some (.slice Ag g.ls.length cg) ∧ W.cell? ⟨o3, i * 2, none⟩ = some (.int .i64 1) ∧ W.cell? ⟨o3, i * 2 + 1, none⟩ = some (.int .i64 b.a)) :=
          hide fun W hW => ⟨(HX5.out.up hW).cell 0, (HX5.out.up hW).cell 1, by rw [← HBK.out]; exact (HCL.out W hW).1, (HCL.out W hW).2⟩
        clear h1 h2 h3 h4 h5 hb
        go_upto_region 12 with fail
        go_region_held3 (fun W => W.cell? ⟨X, 0, none⟩ = some (.int .i64 g.n) ∧ W.cell? ⟨X, 1, none⟩ = some (.slice Ag g.ls.length cg) ∧ W.cell? ⟨o3, i * 2, none⟩ = some (.int .i64 1) ∧ W.cell? ⟨o3, i * 2 + 1, none⟩ = some (.int .i64 b.a))
          (first | go_keep | exact HC.out _ hb7 | exact HC.out _ hb6 | exact HC.out _ hbd | fail)
          (first
            | (go_at_call 39; refine (repairSafe_any _ g a' k _ (HG5.out.up hbd) hn).mono ?_
               rintro e w6 ⟨y6, rfl, hO6, hb6'⟩
               have hb6 := hbd.trans (hb6'.mono hbd.size))
            | (go_at_call 21; refine (hasInt_any _ (safeL g a' k) b.a _ (hO6.slr ic_len) hLs).mono ?_
               rintro e w7 ⟨rfl, hb7'⟩
               have hb7 := hb6.trans (hb7'.mono hb6.size)
               rw [tb_yes HMEM.out])
            | fail)
        all_goals
          have hbe1 := hb7
          have hcl := HCL.out _ hbe1
          clear d1 d2 x0 x1 hO6
          obtain ⟨wz, hwz⟩ : ∃ wz, wz = w7 := ⟨_, rfl⟩
          subst hwz
          have d1' := hcl.1
          have d2' := hcl.2
          have x0 := (HX5.out.up hbe1).cell 0
          have x1 := (HX5.out.up hbe1).cell 1
          have e1 := fun y => wext_cell wz y x0
          have e2 := fun y => wext_cell wz y x1
          have HSE := hide (fun y => stackEnd_any _ (.slice (some ⟨o3, i * 2, none⟩) 1 (k3 - i)) g a' z [b] [a', z] (wext wz y) ((HG5.out.up hbe1).up (wext_below wz y)) hn HRP.out.1.1.1 ((HSL.out _ hbe1).up (wext_below wz y)) (by simp) (.cons HST.out (.nil (HST.out.nd HRP.out.1.1.1).2)) rfl)
          go_upto_region 14 with fail
          refine region_q (by kernel_rfl) (by kernel_rfl) ?_
          repeat (go_big_quiet_step ((first | (go_at_call 43; exact q_call (HSE.out _)))))
          refine wpQuiet_nil ?_
          intro wx hbx
          go_wp2
          go_roundg (gk - 1)
          case measure => omega
          case rel => exact ⟨i + 1, z, by omega, HZ, rfl, by go_num, hbe1.trans (hbx.mono hbe1.size)⟩
      · have hcl := HCL.out wr hbe
        have d1 := hcl.1
        have d2 := hcl.2
        rw [h1] at d1
        have f1 := fun y => wext_cell wr y d1
        clear h1 hb
        go_upto_region 12 with fail
        refine region_q (by kernel_rfl) (by kernel_rfl) ?_
        repeat (go_big_quiet_step ((first | (fail))))
        refine wpQuiet_nil ?_
        intro wx hbx
        have hbe1 := hbe.trans (hbx.mono hbe.size)
        have hcl := HCL.out _ hbe1
        clear d1 d2 f1
        obtain ⟨wz, hwz⟩ : ∃ wz, wz = wx := ⟨_, rfl⟩
        subst hwz
        have d1' := hcl.1
        have d2' := hcl.2
        have x0 := (HX5.out.up hbe1).cell 0
        have x1 := (HX5.out.up hbe1).cell 1
        have e1 := fun y => wext_cell wz y x0
        have e2 := fun y => wext_cell wz y x1
        have HSE := hide (fun y => stackEnd_any _ (.slice (some ⟨o3, i * 2, none⟩) 1 (k3 - i)) g a' z [b] [a', z] (wext wz y) ((HG5.out.up hbe1).up (wext_below wz y)) hn HRP.out.1.1.1 ((HSL.out _ hbe1).up (wext_below wz y)) (by simp) (.cons HST.out (.nil (HST.out.nd HRP.out.1.1.1).2)) rfl)
        go_upto_region 14 with fail
        refine region_q (by kernel_rfl) (by kernel_rfl) ?_
        repeat (go_big_quiet_step ((first | (go_at_call 43; exact q_call (HSE.out _)))))
        refine wpQuiet_nil ?_
        intro wx hbx
        go_wp2
        go_roundg (gk - 1)
        case measure => omega
        case rel => exact ⟨i + 1, z, by omega, HZ, rfl, by go_num, hbe1.trans (hbx.mono hbe1.size)⟩
    · have hat : a = t := by
        have h1 := HA.out
        rw [show i = S4.length from by omega, HLAST.out] at h1
        cases h1; rfl
      subst hat
      have e9 : (a == a) = true := by simp
      go_wp2
      go_ret
      exact ⟨rfl, hb05.trans (hbe.mono hb05.size)⟩
end Go.Proofs.Ytenfdekjnelkoaa
