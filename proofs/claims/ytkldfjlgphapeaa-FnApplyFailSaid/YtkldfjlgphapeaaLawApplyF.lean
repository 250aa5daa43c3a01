/- The law FnApplyFail, walked: it returns true for every code. Conditions: none. -/
import Derived.Test.YtkldfjlgphapeaaLawApply
namespace Go.Proofs.Ytkldfjlgphapeaa
open Go.RowKit



theorem noS_len (s : Int) (l : List Cand) : (noS s l).length ≤ l.length := List.length_filter_le ..
theorem noS_zero (s : Int) : noS s [] = [] := rfl
theorem noS_in {s : Int} {l : List Cand} {k : Nat} {c : Cand} (hk : l[k]? = some c) (h : c.node ≠ s) : noS s (l.take (k + 1)) = noS s (l.take k) ++ [c] := by
  rw [List.take_add_one, hk]
  exact noS_snoc_in h
theorem noS_out {s : Int} {l : List Cand} {k : Nat} {c : Cand} (hk : l[k]? = some c) (h : c.node = s) : noS s (l.take (k + 1)) = noS s (l.take k) := by
  rw [List.take_add_one, hk]
  exact noS_snoc_out h

set_option maxRecDepth 100000 in
set_option maxHeartbeats 1600000 in
theorem lawApplyFail (v : Value) (bs : List Int) (w : World) (hv : SlR bc 1 w w.heap.size v bs) (hm : bs.length ≤ 9223372036854775807 ∧ ∀ n ∈ bs, 0 ≤ n ∧ n ≤ 255) :
    Calls Try.prog 9 #[v] w fun e w' => e = .returned (.bool true) ∧ Below w.heap.size w w' := by
  obtain ⟨i0, hi, hz0, hz1, hz2⟩ := info_parts Try.infoC
  by_cases hl : 1048576 < bs.length
  · obtain ⟨A, cap, rfl, hc, hr⟩ := hv
    clear hr hm
    go_enter Try.func9, Try.ntmps9
    go_wp2
    go_ret
    exact ⟨rfl, Below.refl _ _⟩
  · have hvv := hv
    obtain ⟨A, cap, rfl, hc, hr⟩ := hvv
    clear hr
    have HM := hide hm
    clear hm
    go_enter Try.func9, Try.ntmps9
    go_wp2_with fail
    refine (drawApply_any _ bs _ hv HM.out).mono ?_
    rintro e w1 ⟨x, cs, rfl, hO1, hn, hb1⟩
    have hn' : cs.length ≤ 1048576 := by omega
    have hv1 := hO1.slr cc_len
    clear hO1
    go_wp2_with fail
    refine (speakerApply_any x cs _ hv1 hn').mono ?_
    rintro e w2 ⟨y, rfl, hO2, hb2⟩
    obtain ⟨out, ho⟩ : ∃ out, out = appL cs := ⟨_, rfl⟩
    have hlo : out.length ≤ cs.length := by rw [ho]; exact appL_len cs
    have hlo' : out.length ≤ 1048576 := by omega
    rw [← ho] at hO2
    have hb02 := hb1.trans (hb2.mono hb1.size)
    have hy2 := hO2.slr cc_len
    have hv2 := hv1.up hb2
    clear hO2
    have HO := hide ho
    go_wp2_with fail
    refine (specApply_any x cs _ hv2 hn').mono ?_
    rintro e w3 ⟨z, rfl, hO3, hb3⟩
    rw [← ho] at hO3
    clear ho
    have hb03 := hb02.trans (hb3.mono hb02.size)
    have hz3 := hO3.slr cc_len
    have hy3 := hy2.up hb3
    have hv3 := hv2.up hb3
    clear hO3
    go_wp2_with fail
    refine (sameC_any y z out out _ hy3 hz3 hlo' hlo').mono ?_
    rintro e w4 ⟨rfl, hb4⟩
    rw [eqB_self]
    have hb04 := hb03.trans (hb4.mono hb03.size)
    have hz4 := hz3.up hb4
    have hy4 := hy3.up hb4
    have hv4 := hv3.up hb4
    go_wp2_with fail
    refine (specValid_any x cs _ hv4 hn').mono ?_
    rintro e w5 ⟨rfl, hb5⟩
    have hb05 := hb04.trans (hb5.mono hb04.size)
    have hz5 := hz4.up hb5
    have hy5 := hy4.up hb5
    have hv5 := hv4.up hb5
    clear hb1 hb2 hb3 hb4 hb5 hb02 hb03 hb04 hv1 hv2 hv3 hv4 hy2 hy3 hy4 hz3 hz4
    by_cases hV : ¬ Valid cs
    · rw [show validB cs = false from tb_no hV]
      clear hV
      go_wp2_with fail
      refine (sameC_any y z out out _ hy5 hz5 hlo' hlo').mono ?_
      rintro e w6 ⟨rfl, hb6⟩
      rw [eqB_self]
      have hb06 := hb05.trans (hb6.mono hb05.size)
      go_wp2
      go_ret
      exact ⟨rfl, hb06⟩
    have hV : Valid cs := Classical.byContradiction hV
    have hB : validB cs = true := tb_yes hV
    rw [hB]
    obtain ⟨s, hs⟩ : ∃ s, s = spk cs := ⟨_, rfl⟩
    obtain ⟨t, ht⟩ : ∃ t, t = bak cs := ⟨_, rfl⟩
    have HOM : Hid (out = cs.map (apC s t)) := hide (by rw [HO.out, hs, ht]; unfold appL; rw [if_pos hB])
    have HA : Hid (App out s t) := hide (by rw [HOM.out, hs, ht]; exact app_of hV)
    have HE : Hid (Valid cs ∧ spk cs = s ∧ bak cs = t) := hide ⟨hV, hs.symm, ht.symm⟩
    clear hB HO hV hs ht hz5
    go_wp2_with fail
    refine (elect_val y out s t _ hy5 hlo' ⟨HA.out.valid, HA.out.spk, HA.out.bak⟩).mono ?_
    rintro e w6 ⟨rfl, hb6⟩
    have hb06 := hb05.trans (hb6.mono hb05.size)
    have hy6 := hy5.up hb6
    have h60 : Below w6.heap.size w6 (w6.alloc (.cells #[] 34)) := below1 w6 _
    have HF : Hid (Own cc 34 3 (w6.alloc (.cells #[] 34)) w6.heap.size (.slice (some ⟨w6.heap.size, 0, none⟩) 0 0) (noS s (out.take 0))) := hide (by rw [List.take_zero, noS_zero]; exact own_fresh (enc := cc) (s := 3) w6 34)
    clear hb6 hv5 hy5 hb05 HE HOM
    obtain ⟨A2, cap2, rfl, hc2, hr2⟩ := hy6
    go_wp2
    go_loopg [8, 9] (out.length) (fun gg ov i wr => ∃ k : Nat, k + gg = out.length ∧ i = .int .i64 k ∧ Hid (Own cc 34 3 wr w6.heap.size ov (noS s (out.take k))) ∧ Below w6.heap.size w6 wr)
    case atStart => exact ⟨0, by omega, rfl, HF, h60⟩
    case round =>
      obtain ⟨k, hk, rfl, HO, hbe⟩ := hrel
      obtain ⟨ov, hov⟩ : ∃ ov, ov = u8 := ⟨_, rfl⟩
      subst hov
      clear HF h60
      by_cases hlt : k < out.length
      · obtain ⟨b2, off2, rfl, hb2, hcell2⟩ := hr2 (by omega)
        obtain ⟨c, hck⟩ := get_some hlt
        obtain ⟨g1, g2, g3⟩ := candAt (hcell2.keep (w' := wr) fun p hp => hbe.cell (by omega)) hck
        by_cases h1 : c.node = s
        · have e1 : (c.node != s) = false := by simp [h1]
          have HN := hide (noS_out hck h1)
          clear h1 hck
          go_wp2
          go_roundg (gk - 1)
          case measure => omega
          case rel => exact ⟨k + 1, by omega, by go_num, hide (by rw [HN.out]; exact HO.out), hbe⟩
        · have e1 : (c.node != s) = true := by simp [h1]
          have HN := hide (noS_in hck h1)
          clear h1 hck
          have hOd := HO.out
          obtain ⟨nl, hnl⟩ : ∃ nl, nl = noS s (out.take k) := ⟨_, rfl⟩
          rw [← hnl] at hOd
          have htl : nl.length ≤ k := by rw [hnl]; have := noS_len s (out.take k); simp at this; omega
          have hx1 : nl.length + 1 ≤ maxLen := by unfold maxLen; omega
          have hx2 : (nl.length + 1) * 24 ≤ 140737488355328 := by omega
          have hx4 : w6.heap.size ≤ (wr.alloc (Obj.cells (cc c).toArray 34)).heap.size := by have := hbe.size; simp; omega
          have hlow : ∀ q, ov.ownBlock = some q → w6.heap.size ≤ q := fun q hq => (World.ownsRow.lt hOd q hq).1
          have HNL := hide hnl
          clear hnl
          go_wp2_with (at_builtin; refine wpList_append_own _ rfl (.tmp 52) (.tmp 57) 25 rfl w6.heap.size 34 i0 _ 3 24 Try.underlying25 hi hz0 hz1 hz2 rfl (by decide) ov nl.length (nl.flatMap cc) rfl (hOd.alloc _) ⟨wr.heap.size, 0, none⟩ 1 1 (cc c) rfl rfl (news_at wr _ _) (cc_one _) hx1 hx2 hx4 ?_; intro v9 w9 own9 hg9 hnil9)
          have hO9 : Own cc 34 3 w9 w6.heap.size v9 (noS s (out.take (k + 1))) := own_snoc' (by rw [HN.out, HNL.out]) own9
          have hb9 : Below w6.heap.size w6 w9 := (hbe.alloc hbe.size _).grown hg9 hx4 hlow
          have HO9 := hide hO9
          clear own9 hg9 hnil9 hlow hOd hO9
          go_wp2
          go_roundg (gk - 1)
          case measure => omega
          case rel => exact ⟨k + 1, by omega, by go_num, HO9, hb9⟩
      · have hO := HO.out
        rw [List.take_of_length_le (by omega)] at hO
        have hsl := hO.slr cc_len
        have hle := noS_len s out
        have hle' : (noS s out).length ≤ 1048576 := by omega
        clear hO HO
        have hbw := hb06.trans (hbe.mono hb06.size)
        obtain ⟨t2, ht2⟩ : ∃ t2, t2 = bak (noS s out) := ⟨_, rfl⟩
        have et : (t == t) = true := by simp
        go_wp2_with fail
        refine (elect_val ov (noS s out) t t2 _ hsl hle' ⟨HA.out.rest_valid, HA.out.rest_spk, ht2.symm⟩).mono ?_
        rintro e w7 ⟨rfl, hb7⟩
        clear ht2
        have hb07 := hbw.trans (hb7.mono hbw.size)
        go_wp2
        go_ret
        exact ⟨rfl, hb07⟩
end Go.Proofs.Ytkldfjlgphapeaa
