/- The law FnApplyClaims, walked: it returns true for every code. Conditions: none. -/
import Derived.Test.YtkldfjlgphapeaaLawApply
namespace Go.Proofs.Ytkldfjlgphapeaa
open Go.RowKit



theorem apClaim {s t : Int} {c : Cand} : apC s t c = ⟨c.node, c.prio, (apC s t c).claim⟩ := rfl

set_option maxRecDepth 100000 in
set_option maxHeartbeats 1600000 in
theorem lawApplyClaims (v : Value) (bs : List Int) (w : World) (hv : SlR bc 1 w w.heap.size v bs) (hm : bs.length ≤ 9223372036854775807 ∧ ∀ n ∈ bs, 0 ≤ n ∧ n ≤ 255) :
    Calls Try.prog 8 #[v] w fun e w' => e = .returned (.bool true) ∧ Below w.heap.size w w' := by
  by_cases hl : 1048576 < bs.length
  · obtain ⟨A, cap, rfl, hc, hr⟩ := hv
    clear hr hm
    go_enter Try.func8, Try.ntmps8
    go_wp2
    go_ret
    exact ⟨rfl, Below.refl _ _⟩
  · have hvv := hv
    obtain ⟨A, cap, rfl, hc, hr⟩ := hvv
    clear hr
    have HM := hide hm
    clear hm
    go_enter Try.func8, Try.ntmps8
    go_wp2_with fail
    refine (drawApply_any _ bs _ hv HM.out).mono ?_
    rintro e w1 ⟨x, cs, rfl, hO1, hn, hb1⟩
    have hn' : cs.length ≤ 1048576 := by omega
    have hv1 := hO1.slr cc_len
    clear hO1
    go_wp2_with fail
    refine (speakerApply_any x cs _ hv1 hn').mono ?_
    rintro e w2 ⟨y, rfl, hO2, hb2⟩
    obtain ⟨out, ho⟩ : ∃ out, out = appL cs := ⟨_, rfl⟩
    have hlo : out.length ≤ cs.length := by rw [ho]; exact appL_len cs
    have hlo' : out.length ≤ 1048576 := by omega
    rw [← ho] at hO2
    have hb02 := hb1.trans (hb2.mono hb1.size)
    have hy2 := hO2.slr cc_len
    have hv2 := hv1.up hb2
    clear hO2
    have HO := hide ho
    go_wp2_with fail
    refine (specApply_any x cs _ hv2 hn').mono ?_
    rintro e w3 ⟨z, rfl, hO3, hb3⟩
    rw [← ho] at hO3
    clear ho
    have hb03 := hb02.trans (hb3.mono hb02.size)
    have hz3 := hO3.slr cc_len
    have hy3 := hy2.up hb3
    have hv3 := hv2.up hb3
    clear hO3
    go_wp2_with fail
    refine (sameC_any y z out out _ hy3 hz3 hlo' hlo').mono ?_
    rintro e w4 ⟨rfl, hb4⟩
    rw [eqB_self]
    have hb04 := hb03.trans (hb4.mono hb03.size)
    have hz4 := hz3.up hb4
    have hy4 := hy3.up hb4
    have hv4 := hv3.up hb4
    go_wp2_with fail
    refine (specValid_any x cs _ hv4 hn').mono ?_
    rintro e w5 ⟨rfl, hb5⟩
    have hb05 := hb04.trans (hb5.mono hb04.size)
    have hz5 := hz4.up hb5
    have hy5 := hy4.up hb5
    have hv5 := hv4.up hb5
    clear hb1 hb2 hb3 hb4 hb5 hb02 hb03 hb04 hv1 hv2 hv3 hv4 hy2 hy3 hy4 hz3 hz4
    by_cases hV : ¬ Valid cs
    · rw [show validB cs = false from tb_no hV]
      clear hV
      go_wp2_with fail
      refine (sameC_any y z out out _ hy5 hz5 hlo' hlo').mono ?_
      rintro e w6 ⟨rfl, hb6⟩
      rw [eqB_self]
      have hb06 := hb05.trans (hb6.mono hb05.size)
      go_wp2
      go_ret
      exact ⟨rfl, hb06⟩
    have hV : Valid cs := Classical.byContradiction hV
    have hB : validB cs = true := tb_yes hV
    rw [hB]
    obtain ⟨s, hs⟩ : ∃ s, s = spk cs := ⟨_, rfl⟩
    obtain ⟨t, ht⟩ : ∃ t, t = bak cs := ⟨_, rfl⟩
    have HOM : Hid (out = cs.map (apC s t)) := hide (by rw [HO.out, hs, ht]; unfold appL; rw [if_pos hB])
    have HA : Hid (App out s t) := hide (by rw [HOM.out, hs, ht]; exact app_of hV)
    have HE : Hid (Valid cs ∧ spk cs = s ∧ bak cs = t) := hide ⟨hV, hs.symm, ht.symm⟩
    clear hB HO hV hs ht hz5
    go_wp2_with fail
    refine (elect_val x cs s t _ hv5 hn' HE.out).mono ?_
    rintro e w6 ⟨rfl, hb6⟩
    have hb06 := hb05.trans (hb6.mono hb05.size)
    have hy6 := hy5.up hb6
    have hv6 := hv5.up hb6
    have hlen : out.length = cs.length := by rw [HOM.out]; simp
    have hne : 0 ≤ t → t ≠ s := HA.out.ne
    have hmn : ∀ c ∈ cs, 0 ≤ c.node := fun c hc => (valid_mem HE.out.1 hc).1.1
    have HNE := hide hne
    have HMN := hide hmn
    clear hb6 hv5 hy5 hb05 HA HE hne hmn
    obtain ⟨A', cap', rfl, hc', hr'⟩ := hv6
    obtain ⟨A2, cap2, rfl, hc2, hr2⟩ := hy6
    have hgd := guardCand
    go_wp2
    go_loopg [8] (cs.length) (fun gg i wr => ∃ k : Nat, k + gg = cs.length ∧ i = .int .i64 k ∧ Below w6.heap.size w6 wr)
    case atStart => exact ⟨0, by omega, rfl, Below.refl _ _⟩
    case round =>
      obtain ⟨k, hk, rfl, hbe⟩ := hrel
      by_cases hlt : k < cs.length
      · obtain ⟨b, off, rfl, hb, hcell⟩ := hr' (by omega)
        obtain ⟨b2, off2, rfl, hb2, hcell2⟩ := hr2 (by omega)
        obtain ⟨c, hck⟩ := get_some hlt
        have hok : out[k]? = some (apC s t c) := by rw [HOM.out, List.getElem?_map, hck]; rfl
        obtain ⟨g1, g2, g3⟩ := candAt (hcell.keep (w' := wr) fun p hp => hbe.cell (by omega)) hck
        obtain ⟨o1, o2, o3⟩ := candAt (hcell2.keep (w' := wr) fun p hp => hbe.cell (by omega)) hok
        have hcn := HMN.out c (List.mem_of_getElem? hck)
        clear hck hok
        have hlt2 : k < out.length := by omega
        by_cases h1 : c.node = s
        · have e1 : (c.node == s) = true := by simp [h1]
          rw [apC_s h1] at o1 o2 o3
          by_cases h2 : c.node = t
          · exact absurd (h2.symm.trans h1) (HNE.out (by omega))
          · have e2 : (c.node == t) = false := by simp [h2]
            clear h1 h2
            simp only at o1 o2 o3
            go_upto_region 18 with fail
            obtain ⟨wd, hwd⟩ : ∃ wd, wd = wr.alloc (Obj.cells #[Value.int IntKind.i64 c.node, Value.int IntKind.i64 c.prio, Value.int IntKind.i64 2] 34) := ⟨_, rfl⟩
            have hbd : Below w6.heap.size w6 wd := by rw [hwd]; exact hbe.alloc hbe.size _
            have hBd : Blk wd wr.heap.size 34 #[Value.int IntKind.i64 c.node, Value.int IntKind.i64 c.prio, Value.int IntKind.i64 2] := by rw [hwd]; exact Blk.new _ _ _
            have p1 : wd.cell? ⟨b2, off2 + k * 3, none⟩ = some (Value.int IntKind.i64 c.node) := by rw [hwd]; exact (Below.cell (below1 wr _) (World.block_lt_of_cell? wr _ o1)).trans o1
            have p2 : wd.cell? ⟨b2, off2 + k * 3 + 1, none⟩ = some (Value.int IntKind.i64 c.prio) := by rw [hwd]; exact (Below.cell (below1 wr _) (World.block_lt_of_cell? wr _ o2)).trans o2
            have p3 : wd.cell? ⟨b2, off2 + k * 3 + 2, none⟩ = some (Value.int IntKind.i64 2) := by rw [hwd]; exact (Below.cell (below1 wr _) (World.block_lt_of_cell? wr _ o3)).trans o3
            rw [← hwd]
            have t0 := hBd.cell 0
            have t1 := hBd.cell 1
            have t2 := hBd.cell 2
            have hnq := fun W => neqCand ⟨c.node, c.prio, 2⟩ ⟨c.node, c.prio, 2⟩ W
            rw [eqB_self] at hnq
            simp only at hnq
            clear hwd hBd g1 g2 g3 o1 o2 o3
            go_cut [67] (fun s wx => s = .bool false ∧ Below w6.heap.size w6 wx)
            case first =>
              have q1 := fun x => wext_cell wd x p1
              have q2 := fun x => wext_cell wd x p2
              have q3 := fun x => wext_cell wd x p3
              have q4 := fun x => wext_cell wd x t0
              have q5 := fun x => wext_cell wd x t1
              have q6 := fun x => wext_cell wd x t2
              refine region_q (by kernel_rfl) (by kernel_rfl) ?_
              repeat (go_big_quiet_step ((first | (fail))))
              refine wpQuiet_nil ?_
              intro wx hbx
              go_wp2_with fail
              go_meet
              exact ⟨rfl, hbd.trans (hbx.mono hbd.size)⟩
            case rest =>
              obtain ⟨rfl, hbc⟩ := hcut
              go_wp2
              go_roundg (gk - 1)
              case measure => omega
              case rel => exact ⟨k + 1, by omega, by go_num, hbc⟩
        · have e1 : (c.node == s) = false := by simp [h1]
          by_cases h2 : c.node = t
          · have e2 : (c.node == t) = true := by simp [h2]
            have e3 : (t != s) = true := by simp; intro h; exact h1 (h2.trans h)
            rw [apC_b h1 h2] at o1 o2 o3
            clear h1 h2
            simp only at o1 o2 o3
            go_upto_region 18 with fail
            obtain ⟨wd, hwd⟩ : ∃ wd, wd = wr.alloc (Obj.cells #[Value.int IntKind.i64 c.node, Value.int IntKind.i64 c.prio, Value.int IntKind.i64 1] 34) := ⟨_, rfl⟩
            have hbd : Below w6.heap.size w6 wd := by rw [hwd]; exact hbe.alloc hbe.size _
            have hBd : Blk wd wr.heap.size 34 #[Value.int IntKind.i64 c.node, Value.int IntKind.i64 c.prio, Value.int IntKind.i64 1] := by rw [hwd]; exact Blk.new _ _ _
            have p1 : wd.cell? ⟨b2, off2 + k * 3, none⟩ = some (Value.int IntKind.i64 c.node) := by rw [hwd]; exact (Below.cell (below1 wr _) (World.block_lt_of_cell? wr _ o1)).trans o1
            have p2 : wd.cell? ⟨b2, off2 + k * 3 + 1, none⟩ = some (Value.int IntKind.i64 c.prio) := by rw [hwd]; exact (Below.cell (below1 wr _) (World.block_lt_of_cell? wr _ o2)).trans o2
            have p3 : wd.cell? ⟨b2, off2 + k * 3 + 2, none⟩ = some (Value.int IntKind.i64 1) := by rw [hwd]; exact (Below.cell (below1 wr _) (World.block_lt_of_cell? wr _ o3)).trans o3
            rw [← hwd]
            have t0 := hBd.cell 0
            have t1 := hBd.cell 1
            have t2 := hBd.cell 2
            have hnq := fun W => neqCand ⟨c.node, c.prio, 1⟩ ⟨c.node, c.prio, 1⟩ W
            rw [eqB_self] at hnq
            simp only at hnq
            clear hwd hBd g1 g2 g3 o1 o2 o3
            go_cut [67] (fun s wx => s = .bool false ∧ Below w6.heap.size w6 wx)
            case first =>
              have q1 := fun x => wext_cell wd x p1
              have q2 := fun x => wext_cell wd x p2
              have q3 := fun x => wext_cell wd x p3
              have q4 := fun x => wext_cell wd x t0
              have q5 := fun x => wext_cell wd x t1
              have q6 := fun x => wext_cell wd x t2
              refine region_q (by kernel_rfl) (by kernel_rfl) ?_
              repeat (go_big_quiet_step ((first | (fail))))
              refine wpQuiet_nil ?_
              intro wx hbx
              go_wp2_with fail
              go_meet
              exact ⟨rfl, hbd.trans (hbx.mono hbd.size)⟩
            case rest =>
              obtain ⟨rfl, hbc⟩ := hcut
              go_wp2
              go_roundg (gk - 1)
              case measure => omega
              case rel => exact ⟨k + 1, by omega, by go_num, hbc⟩
          · have e2 : (c.node == t) = false := by simp [h2]
            rw [apC_n h1 h2] at o1 o2 o3
            clear h1 h2
            simp only at o1 o2 o3
            go_upto_region 18 with fail
            obtain ⟨wd, hwd⟩ : ∃ wd, wd = wr.alloc (Obj.cells #[Value.int IntKind.i64 c.node, Value.int IntKind.i64 c.prio, Value.int IntKind.i64 0] 34) := ⟨_, rfl⟩
            have hbd : Below w6.heap.size w6 wd := by rw [hwd]; exact hbe.alloc hbe.size _
            have hBd : Blk wd wr.heap.size 34 #[Value.int IntKind.i64 c.node, Value.int IntKind.i64 c.prio, Value.int IntKind.i64 0] := by rw [hwd]; exact Blk.new _ _ _
            have p1 : wd.cell? ⟨b2, off2 + k * 3, none⟩ = some (Value.int IntKind.i64 c.node) := by rw [hwd]; exact (Below.cell (below1 wr _) (World.block_lt_of_cell? wr _ o1)).trans o1
            have p2 : wd.cell? ⟨b2, off2 + k * 3 + 1, none⟩ = some (Value.int IntKind.i64 c.prio) := by rw [hwd]; exact (Below.cell (below1 wr _) (World.block_lt_of_cell? wr _ o2)).trans o2
            have p3 : wd.cell? ⟨b2, off2 + k * 3 + 2, none⟩ = some (Value.int IntKind.i64 0) := by rw [hwd]; exact (Below.cell (below1 wr _) (World.block_lt_of_cell? wr _ o3)).trans o3
            rw [← hwd]
            have t0 := hBd.cell 0
            have t1 := hBd.cell 1
            have t2 := hBd.cell 2
            have hnq := fun W => neqCand ⟨c.node, c.prio, 0⟩ ⟨c.node, c.prio, 0⟩ W
            rw [eqB_self] at hnq
            simp only at hnq
            clear hwd hBd g1 g2 g3 o1 o2 o3
            go_cut [67] (fun s wx => s = .bool false ∧ Below w6.heap.size w6 wx)
            case first =>
              have q1 := fun x => wext_cell wd x p1
              have q2 := fun x => wext_cell wd x p2
              have q3 := fun x => wext_cell wd x p3
              have q4 := fun x => wext_cell wd x t0
              have q5 := fun x => wext_cell wd x t1
              have q6 := fun x => wext_cell wd x t2
              refine region_q (by kernel_rfl) (by kernel_rfl) ?_
              repeat (go_big_quiet_step ((first | (fail))))
              refine wpQuiet_nil ?_
              intro wx hbx
              go_wp2_with fail
              go_meet
              exact ⟨rfl, hbd.trans (hbx.mono hbd.size)⟩
            case rest =>
              obtain ⟨rfl, hbc⟩ := hcut
              go_wp2
              go_roundg (gk - 1)
              case measure => omega
              case rel => exact ⟨k + 1, by omega, by go_num, hbc⟩
      · have he : ((out.length : Int) == (cs.length : Int)) = true := by simp; omega
        go_wp2
        go_ret
        exact ⟨rfl, hb06.trans (hbe.mono hb06.size)⟩
end Go.Proofs.Ytkldfjlgphapeaa
