/- The law FnApplyNew, walked: it returns true for every two codes. Conditions: none. -/
import Derived.Test.YtkldfjlgphapeaaLawApply
namespace Go.Proofs.Ytkldfjlgphapeaa
open Go.RowKit


set_option maxRecDepth 100000 in
set_option maxHeartbeats 1600000 in
theorem lawApplyNew (v : Value) (bs : List Int) (u : Value) (ms : List Int) (w : World) (hv : SlR bc 1 w w.heap.size v bs) (hm : bs.length ≤ 9223372036854775807 ∧ ∀ n ∈ bs, 0 ≤ n ∧ n ≤ 255)
    (hu : SlR bc 1 w w.heap.size u ms) (hum : ms.length ≤ 9223372036854775807 ∧ ∀ n ∈ ms, 0 ≤ n ∧ n ≤ 255) :
    Calls Try.prog 12 #[v, u] w fun e w' => e = .returned (.bool true) ∧ Below w.heap.size w w' := by
  obtain ⟨i0, hi, hz0, hz1, hz2⟩ := info_parts Try.infoC
  obtain ⟨B, bcap, rfl, hBc, hBr⟩ := hu
  have hml := hum.1
  clear hBr hum
  by_cases hl : 1048576 < bs.length
  · obtain ⟨A, cap, rfl, hc, hr⟩ := hv
    clear hr hm
    go_enter Try.func12, Try.ntmps12
    go_wp2
    go_ret
    exact ⟨rfl, Below.refl _ _⟩
  by_cases hl2 : 1048576 < ms.length
  · obtain ⟨A, cap, rfl, hc, hr⟩ := hv
    clear hr hm
    go_enter Try.func12, Try.ntmps12
    go_wp2
    go_ret
    exact ⟨rfl, Below.refl _ _⟩
  have hvv := hv
  obtain ⟨A, cap, rfl, hc, hr⟩ := hvv
  clear hr
  have hfd := fieldC0
  obtain ⟨n, hnm⟩ : ∃ n : Int, n = (ms.length : Int) % 8 := ⟨_, rfl⟩
  have hn7 : 0 ≤ n ∧ n ≤ 7 := by omega
  have HM := hide hm
  clear hm
  go_enter Try.func12, Try.ntmps12
  go_wp2_with fail
  refine (drawApply_any _ bs _ hv HM.out).mono ?_
  rintro e w1 ⟨x, cs, rfl, hO1, hn, hb1⟩
  have hn' : cs.length ≤ 1048576 := by omega
  have hv1 := hO1.slr cc_len
  clear hO1
  go_wp2_with fail
  refine (speakerApply_any x cs _ hv1 hn').mono ?_
  rintro e w2 ⟨y, rfl, hO2, hb2⟩
  obtain ⟨out, ho⟩ : ∃ out, out = appL cs := ⟨_, rfl⟩
  have hlo : out.length ≤ cs.length := by rw [ho]; exact appL_len cs
  have hlo' : out.length ≤ 1048576 := by omega
  rw [← ho] at hO2
  have hb02 := hb1.trans (hb2.mono hb1.size)
  have hy2 := hO2.slr cc_len
  have hv2 := hv1.up hb2
  clear hO2
  have HO := hide ho
  go_wp2_with fail
  refine (specApply_any x cs _ hv2 hn').mono ?_
  rintro e w3 ⟨z, rfl, hO3, hb3⟩
  rw [← ho] at hO3
  clear ho
  have hb03 := hb02.trans (hb3.mono hb02.size)
  have hz3 := hO3.slr cc_len
  have hy3 := hy2.up hb3
  have hv3 := hv2.up hb3
  clear hO3
  go_wp2_with fail
  refine (sameC_any y z out out _ hy3 hz3 hlo' hlo').mono ?_
  rintro e w4 ⟨rfl, hb4⟩
  rw [eqB_self]
  have hb04 := hb03.trans (hb4.mono hb03.size)
  have hz4 := hz3.up hb4
  have hy4 := hy3.up hb4
  have hv4 := hv3.up hb4
  go_wp2_with fail
  refine (specValid_any x cs _ hv4 hn').mono ?_
  rintro e w5 ⟨rfl, hb5⟩
  have hb05 := hb04.trans (hb5.mono hb04.size)
  have hz5 := hz4.up hb5
  have hy5 := hy4.up hb5
  have hv5 := hv4.up hb5
  clear hb1 hb2 hb3 hb4 hb5 hb02 hb03 hb04 hv1 hv2 hv3 hv4 hy2 hy3 hy4 hz3 hz4
  by_cases hV : ¬ Valid cs
  · rw [show validB cs = false from tb_no hV]
    clear hV
    go_wp2_with fail
    refine (sameC_any y z out out _ hy5 hz5 hlo' hlo').mono ?_
    rintro e w6 ⟨rfl, hb6⟩
    rw [eqB_self]
    have hb06 := hb05.trans (hb6.mono hb05.size)
    go_wp2
    go_ret
    exact ⟨rfl, hb06⟩
  have hV : Valid cs := Classical.byContradiction hV
  have hB : validB cs = true := tb_yes hV
  rw [hB]
  obtain ⟨s, hs⟩ : ∃ s, s = spk cs := ⟨_, rfl⟩
  obtain ⟨t, ht⟩ : ∃ t, t = bak cs := ⟨_, rfl⟩
  have HOM : Hid (out = cs.map (apC s t)) := hide (by rw [HO.out, hs, ht]; unfold appL; rw [if_pos hB])
  have HA : Hid (App out s t) := hide (by rw [HOM.out, hs, ht]; exact app_of hV)
  have HE : Hid (Valid cs ∧ spk cs = s ∧ bak cs = t) := hide ⟨hV, hs.symm, ht.symm⟩
  clear hB HO hV hs ht hz5
  go_wp2_with fail
  refine (elect_val y out s t _ hy5 hlo' ⟨HA.out.valid, HA.out.spk, HA.out.bak⟩).mono ?_
  rintro e w6 ⟨rfl, hb6⟩
  have hb06 := hb05.trans (hb6.mono hb05.size)
  have hy6 := hy5.up hb6
  rw [← hnm]
  have HNM := hide hnm
  clear hnm
  go_wp2_with fail
  refine (candidate_any y out n _ hy6 hlo').mono ?_
  rintro e w7 ⟨c0, rfl, hc0, hb7⟩
  have hb07 := hb06.trans (hb7.mono hb06.size)
  have hy7 := hy6.up hb7
  clear hb6 hb7 hv5 hy5 hb05 HE HOM hy6 hb06
  by_cases hcn : c0.node = n
  · have e1 : (c0.node == n) = true := by simp [hcn]
    clear hcn
    go_wp2
    go_ret
    exact ⟨rfl, hb07⟩
  have e1 : (c0.node == n) = false := by simp [hcn]
  have hno : ∀ d ∈ out, d.node ≠ n := by
    rcases hc0 with ⟨_, h2⟩ | ⟨_, h2⟩
    · exact absurd h2 hcn
    · exact h2
  have HNO := hide hno
  clear hcn hc0 hno
  by_cases hs0 : s < 0
  · go_wp2
    go_ret
    exact ⟨rfl, hb07⟩
  have h70 : Below w7.heap.size w7 (w7.alloc (.cells #[] 34)) := below1 w7 _
  have HF : Hid (Own cc 34 3 (w7.alloc (.cells #[] 34)) w7.heap.size (.slice (some ⟨w7.heap.size, 0, none⟩) 0 0) []) := hide (own_fresh (enc := cc) (s := 3) w7 34)
  have HZ := hide (Next.zero out n HA.out.valid)
  go_wp2
  go_loopg [11, 12] (8) (fun gg ov i wr => ∃ (k : Nat) (nl : List Cand), k + gg = 8 ∧ i = .int .i64 k ∧ Hid (Own cc 34 3 wr w7.heap.size ov nl) ∧ Hid (Next out n k nl) ∧ nl.length ≤ k ∧ Below w7.heap.size w7 wr)
  case atStart => exact ⟨0, [], by omega, rfl, HF, HZ, by simp, h70⟩
  case round =>
    obtain ⟨k, nl, hk, rfl, HO, HX, hln, hbe⟩ := hrel
    obtain ⟨ov, hov⟩ : ∃ ov, ov = u11 := ⟨_, rfl⟩
    subst hov
    clear HF h70 HZ
    by_cases hlt : k < 8
    · by_cases hkn : (k : Int) = n
      · have e2 : ((k : Int) == n) = true := by simp [hkn]
        have HKN := hide hkn
        clear hkn
        have hO := HO.out
        have hx1 : nl.length + 1 ≤ maxLen := by unfold maxLen; omega
        have hx2 : (nl.length + 1) * 24 ≤ 140737488355328 := by omega
        have hx4 : w7.heap.size ≤ (wr.alloc (Obj.cells (cc ⟨n, 9, 0⟩).toArray 34)).heap.size := by have := hbe.size; simp; omega
        have hlow : ∀ q, ov.ownBlock = some q → w7.heap.size ≤ q := fun q hq => (World.ownsRow.lt hO q hq).1
        go_wp2_with (at_builtin; refine wpList_append_own _ rfl (.tmp 67) (.tmp 70) 25 rfl w7.heap.size 34 i0 _ 3 24 Try.underlying25 hi hz0 hz1 hz2 rfl (by decide) ov nl.length (nl.flatMap cc) rfl (hO.alloc _) ⟨wr.heap.size, 0, none⟩ 1 1 (cc ⟨n, 9, 0⟩) rfl rfl (news_at wr _ _) (cc_one _) hx1 hx2 hx4 ?_; intro v9 w9 own9 hg9 hnil9)
        have hO9 : Own cc 34 3 w9 w7.heap.size v9 (nl ++ [⟨n, 9, 0⟩]) := own_snoc' rfl own9
        have hb9 : Below w7.heap.size w7 w9 := (hbe.alloc hbe.size _).grown hg9 hx4 hlow
        have HX9 : Hid (Next out n (k + 1) (nl ++ [⟨n, 9, 0⟩])) := hide (HX.out.snoc HA.out.valid (.inr ⟨rfl, fun d hd => by rw [HKN.out]; exact HNO.out d hd⟩) HKN.out.symm)
        clear own9 hg9 hnil9 hlow hO
        go_wp2_with fail
        refine (candidate_any y out k _ (hy7.up hb9) hlo').mono ?_
        rintro e w8 ⟨c1, rfl, hc1, hb8⟩
        have hb98 := hb9.trans (hb8.mono hb9.size)
        have HO8 := hide (hO9.below hb8)
        have e3 : (c1.node == (k : Int)) = false := by
          rcases hc1 with ⟨h1, h2⟩ | ⟨h1, _⟩
          · exact absurd (h2.trans HKN.out) (HNO.out _ h1)
          · rw [h1]; simp <;> omega
        clear hc1 hO9 hb9 hb8
        go_wp2
        go_roundg (gk - 1)
        case measure => omega
        case rel => exact ⟨k + 1, _, by omega, by go_num, HO8, HX9, by simp; omega, hb98⟩
      · have e2 : ((k : Int) == n) = false := by simp [hkn]
        clear hkn
        go_wp2_with fail
        refine (candidate_any y out k _ (hy7.up hbe) hlo').mono ?_
        rintro e w8 ⟨c1, rfl, hc1, hb8⟩
        have hb78 := hbe.trans (hb8.mono hbe.size)
        have hO8 := HO.out.below hb8
        rcases hc1 with ⟨h1, h2⟩ | ⟨h1, h2⟩
        · have e3 : (c1.node == (k : Int)) = true := by simp [h2]
          have H1 := hide h1
          have H2 := hide h2
          clear h1 h2 hb8
          go_wp2_with fail
          refine (candidate_any y out k _ (hy7.up hb78) hlo').mono ?_
          rintro e w8b ⟨c2, rfl, hc2, hb8b⟩
          have hb7b := hb78.trans (hb8b.mono hb78.size)
          have hO8b := hO8.below hb8b
          have hcc : c2 = c1 := by
            rcases hc2 with ⟨h1, h2⟩ | ⟨_, h2⟩
            · exact pw_node (valid_pw HA.out.valid) h1 H1.out (h2.trans H2.out.symm)
            · exact absurd H2.out (h2 _ H1.out)
          subst hcc
          clear hc2 hb8b hO8 hb78
          have hx1 : nl.length + 1 ≤ maxLen := by unfold maxLen; omega
          have hx2 : (nl.length + 1) * 24 ≤ 140737488355328 := by omega
          have hx4 : w7.heap.size ≤ (w8b.alloc (Obj.cells (cc c2).toArray 34)).heap.size := by have := hb7b.size; simp; omega
          have hlow : ∀ q, ov.ownBlock = some q → w7.heap.size ≤ q := fun q hq => (World.ownsRow.lt hO8b q hq).1
          go_wp2_with (at_builtin; refine wpList_append_own _ rfl (.tmp 78) (.tmp 82) 25 rfl w7.heap.size 34 i0 _ 3 24 Try.underlying25 hi hz0 hz1 hz2 rfl (by decide) ov nl.length (nl.flatMap cc) rfl (hO8b.alloc _) ⟨w8b.heap.size, 0, none⟩ 1 1 (cc c2) rfl rfl (news_at w8b _ _) (cc_one _) hx1 hx2 hx4 ?_; intro v9 w9 own9 hg9 hnil9)
          have hO9 : Own cc 34 3 w9 w7.heap.size v9 (nl ++ [c2]) := own_snoc' rfl own9
          have hb9 : Below w7.heap.size w7 w9 := (hb7b.alloc hb7b.size _).grown hg9 hx4 hlow
          have HX9 : Hid (Next out n (k + 1) (nl ++ [c2])) := hide (HX.out.snoc HA.out.valid (.inl H1.out) H2.out)
          have HO9 := hide hO9
          clear own9 hg9 hnil9 hlow hO8b hO9
          go_wp2
          go_roundg (gk - 1)
          case measure => omega
          case rel => exact ⟨k + 1, _, by omega, by go_num, HO9, HX9, by simp; omega, hb9⟩
        · have e3 : (c1.node == (k : Int)) = false := by rw [h1]; simp <;> omega
          have HX9 : Hid (Next out n (k + 1) nl) := hide (HX.out.skip h2)
          have HO8 := hide hO8
          clear h1 h2 hO8 hb8
          go_wp2
          go_roundg (gk - 1)
          case measure => omega
          case rel => exact ⟨k + 1, _, by omega, by go_num, HO8, HX9, by omega, hb78⟩
    · have hk8 : k = 8 := by omega
      subst hk8
      have hsl := HO.out.slr cc_len
      have hle' : nl.length ≤ 1048576 := by omega
      have hbw := hb07.trans (hbe.mono hb07.size)
      obtain ⟨d, hd⟩ : ∃ d, d = bak nl := ⟨_, rfl⟩
      have HD := hide hd
      clear hd HO
      have es : (s == s) = true := by simp
      go_wp2_with fail
      refine (elect_val ov nl s d _ hsl hle' ⟨HX.out.valid HA.out.valid hn7, HA.out.new_spk HX.out hn7 (by omega), HD.out.symm⟩).mono ?_
      rintro e w8 ⟨rfl, hb8⟩
      have hb08 := hbw.trans (hb8.mono hbw.size)
      by_cases ht0 : t < 0
      · go_wp2
        go_ret
        exact ⟨rfl, hb08⟩
      · have hdt : d = t := by rw [HD.out]; exact HA.out.new_bak HX.out hn7 (by omega) (by omega)
        have et : (d == t) = true := by simp [hdt]
        clear hdt
        go_wp2
        go_ret
        exact ⟨rfl, hb08⟩
end Go.Proofs.Ytkldfjlgphapeaa
