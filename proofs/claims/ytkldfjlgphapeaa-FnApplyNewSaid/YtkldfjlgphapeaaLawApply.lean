/- The laws FnApplyStable, FnApplyClaims, FnApplyFail, walked: each returns true for every code. Conditions: none. -/
import Derived.Test.YtkldfjlgphapeaaLawElect
import Derived.Test.YtkldfjlgphapeaaApply3
import Derived.Test.YtkldfjlgphapeaaApplyQ
namespace Go.Proofs.Ytkldfjlgphapeaa
open Go.RowKit

/-- The program's election of valid candidates. -/
theorem elect_val (v : Value) (cs : List Cand) (s t : Int) (w : World) (hv : SlR cc 3 w w.heap.size v cs) (hn : cs.length ≤ 1048576) (h : Valid cs ∧ spk cs = s ∧ bak cs = t) :
    Calls Try.prog 19 #[v] w fun e w' => e = .returned (.tuple #[.int .i64 s, .int .i64 t]) ∧ Below w.heap.size w w' := by
  obtain ⟨h1, h2, h3⟩ := h
  have h4 := speakerElect_any v cs w hv hn
  rw [show validB cs = true from tb_yes h1, if_pos rfl, if_pos rfl, h2, h3] at h4
  exact h4


set_option maxHeartbeats 800000 in
theorem lawApplyStable (v : Value) (bs : List Int) (w : World) (hv : SlR bc 1 w w.heap.size v bs) (hm : bs.length ≤ 9223372036854775807 ∧ ∀ n ∈ bs, 0 ≤ n ∧ n ≤ 255) :
    Calls Try.prog 10 #[v] w fun e w' => e = .returned (.bool true) ∧ Below w.heap.size w w' := by
  by_cases hl : 1048576 < bs.length
  · obtain ⟨A, cap, rfl, hc, hr⟩ := hv
    clear hr hm
    go_enter Try.func10, Try.ntmps10
    go_wp2
    go_ret
    exact ⟨rfl, Below.refl _ _⟩
  · have hvv := hv
    obtain ⟨A, cap, rfl, hc, hr⟩ := hvv
    clear hr
    have HM := hide hm
    clear hm
    go_enter Try.func10, Try.ntmps10
    go_wp2_with fail
    refine (drawApply_any _ bs _ hv HM.out).mono ?_
    rintro e w1 ⟨x, cs, rfl, hO1, hn, hb1⟩
    have hn' : cs.length ≤ 1048576 := by omega
    have hv1 := hO1.slr cc_len
    clear hO1
    go_wp2_with fail
    refine (speakerApply_any x cs _ hv1 hn').mono ?_
    rintro e w2 ⟨y, rfl, hO2, hb2⟩
    obtain ⟨out, ho⟩ : ∃ out, out = appL cs := ⟨_, rfl⟩
    have hlo : out.length ≤ cs.length := by rw [ho]; exact appL_len cs
    have hlo' : out.length ≤ 1048576 := by omega
    rw [← ho] at hO2
    have hb02 := hb1.trans (hb2.mono hb1.size)
    have hy2 := hO2.slr cc_len
    have hv2 := hv1.up hb2
    clear hO2
    have HO := hide ho
    go_wp2_with fail
    refine (specApply_any x cs _ hv2 hn').mono ?_
    rintro e w3 ⟨z, rfl, hO3, hb3⟩
    rw [← ho] at hO3
    clear ho
    have hb03 := hb02.trans (hb3.mono hb02.size)
    have hz3 := hO3.slr cc_len
    have hy3 := hy2.up hb3
    have hv3 := hv2.up hb3
    clear hO3
    go_wp2_with fail
    refine (sameC_any y z out out _ hy3 hz3 hlo' hlo').mono ?_
    rintro e w4 ⟨rfl, hb4⟩
    rw [eqB_self]
    have hb04 := hb03.trans (hb4.mono hb03.size)
    have hz4 := hz3.up hb4
    have hy4 := hy3.up hb4
    have hv4 := hv3.up hb4
    go_wp2_with fail
    refine (specValid_any x cs _ hv4 hn').mono ?_
    rintro e w5 ⟨rfl, hb5⟩
    have hb05 := hb04.trans (hb5.mono hb04.size)
    have hz5 := hz4.up hb5
    have hy5 := hy4.up hb5
    have hv5 := hv4.up hb5
    clear hb1 hb2 hb3 hb4 hb5 hb02 hb03 hb04 hv1 hv2 hv3 hv4 hy2 hy3 hy4 hz3 hz4
    by_cases hV : ¬ Valid cs
    · rw [show validB cs = false from tb_no hV]
      clear hV
      go_wp2_with fail
      refine (sameC_any y z out out _ hy5 hz5 hlo' hlo').mono ?_
      rintro e w6 ⟨rfl, hb6⟩
      rw [eqB_self]
      have hb06 := hb05.trans (hb6.mono hb05.size)
      go_wp2
      go_ret
      exact ⟨rfl, hb06⟩
    have hV : Valid cs := Classical.byContradiction hV
    have hB : validB cs = true := tb_yes hV
    rw [hB]
    obtain ⟨s, hs⟩ : ∃ s, s = spk cs := ⟨_, rfl⟩
    obtain ⟨t, ht⟩ : ∃ t, t = bak cs := ⟨_, rfl⟩
    have HOM : Hid (out = cs.map (apC s t)) := hide (by rw [HO.out, hs, ht]; unfold appL; rw [if_pos hB])
    have HA : Hid (App out s t) := hide (by rw [HOM.out, hs, ht]; exact app_of hV)
    have HE : Hid (Valid cs ∧ spk cs = s ∧ bak cs = t) := hide ⟨hV, hs.symm, ht.symm⟩
    clear hB HO hV hs ht hz5
    have es : (s == s) = true := by simp
    have et : (t == t) = true := by simp
    go_wp2_with fail
    refine (elect_val x cs s t _ hv5 hn' HE.out).mono ?_
    rintro e w6 ⟨rfl, hb6⟩
    have hb06 := hb05.trans (hb6.mono hb05.size)
    have hy6 := hy5.up hb6
    go_wp2_with fail
    refine (elect_val y out s t _ hy6 hlo' ⟨HA.out.valid, HA.out.spk, HA.out.bak⟩).mono ?_
    rintro e w7 ⟨rfl, hb7⟩
    have hb07 := hb06.trans (hb7.mono hb06.size)
    have hy7 := hy6.up hb7
    go_wp2_with fail
    refine (speakerApply_any y out _ hy7 hlo').mono ?_
    rintro e w8 ⟨z8, rfl, hO8, hb8⟩
    rw [HA.out.stable] at hO8
    have hb08 := hb07.trans (hb8.mono hb07.size)
    have hy8 := hy7.up hb8
    go_wp2_with fail
    refine (sameC_any z8 y out out _ (hO8.slr cc_len) hy8 hlo' hlo').mono ?_
    rintro e w9 ⟨rfl, hb9⟩
    rw [eqB_self]
    have hb09 := hb08.trans (hb9.mono hb08.size)
    go_wp2
    go_ret
    exact ⟨rfl, hb09⟩
end Go.Proofs.Ytkldfjlgphapeaa
