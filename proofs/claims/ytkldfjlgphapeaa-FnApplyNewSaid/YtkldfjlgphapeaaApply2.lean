/- The reference's SpeakerApply; comparing lists of candidates. Conditions: at most 1048576 candidates. -/
import Derived.Test.YtkldfjlgphapeaaApply
namespace Go.Proofs.Ytkldfjlgphapeaa
open Go.RowKit

theorem own_snoc' {w : World} {base : Nat} {v : Value} {cs ds : List Cand} {c : Cand} {e : TypeId} (hd : ds = cs ++ [c]) (h : w.ownsRow base e 3 v (cs.length + 1) (cs.flatMap cc ++ cc c)) : Own cc e 3 w base v ds := by
  subst hd
  unfold Own
  simpa using h
theorem map_take {f : Cand → Cand} {cs : List Cand} {k : Nat} {c : Cand} (h : cs[k]? = some c) : (cs.take (k + 1)).map f = (cs.take k).map f ++ [f c] := by
  rw [List.take_add_one, h]
  simp


set_option maxHeartbeats 1600000 in
theorem specApply_any (v : Value) (cs : List Cand) (w : World) (hv : SlR cc 3 w w.heap.size v cs) (hn : cs.length ≤ 1048576) :
    Calls Try.prog 24 #[v] w fun e w' => ∃ v', e = .returned v' ∧ Own cc 34 3 w' w.heap.size v' (appL cs) ∧ Below w.heap.size w w' := by
  by_cases hV : Valid cs
  · have hb : validB cs = true := tb_yes hV
    have hap : appL cs = cs.map (apC (spk cs) (bak cs)) := by unfold appL; rw [if_pos hb]
    rw [hap]
    have HV := hide hV
    clear hV hap
    obtain ⟨s, hs⟩ : ∃ s, s = spk cs := ⟨_, rfl⟩
    obtain ⟨t, ht⟩ : ∃ t, t = bak cs := ⟨_, rfl⟩
    rw [← hs, ← ht]
    have HS := hide hs
    have HT := hide ht
    clear hs ht
    obtain ⟨i0, hi, hz0, hz1, hz2⟩ := info_parts Try.infoC
    have hb0 := below1 w (.cells #[] 34)
    have hO0 := own_fresh (enc := cc) (s := 3) w 34
    go_enter Try.func24, Try.ntmps24
    go_wp2_with fail
    refine (specValid_any v cs _ (hv.up hb0) hn).mono ?_
    rintro e w1 ⟨rfl, hb1⟩
    rw [hb]
    have hv1 := (hv.up hb0).up hb1
    have hO1 := hO0.below hb1
    have hb01 := hb0.trans (hb1.mono hb0.size)
    go_wp2_with fail
    refine (l13Elect_any v cs _ hv1 hn HV.out).mono ?_
    rintro e w3 ⟨rfl, hb3⟩
    rw [← HS.out, ← HT.out]
    have hb03 := hb01.trans (hb3.mono hb01.size)
    have HO3 : Hid (Own cc 34 3 w3 w.heap.size (.slice (some ⟨w.heap.size, 0, none⟩) 0 0) ((cs.take 0).map (apC s t))) := hide (hO1.below hb3)
    have hvv := hv
    obtain ⟨A, cap, rfl, hc, hr⟩ := hvv
    clear hb1 hb3 hb01 hO0 hO1 hv1 hb hv HV HS HT hb0
    go_wp2
    go_loopg [3, 6] (cs.length) (fun gg ov i wr => ∃ k : Nat, k + gg = cs.length ∧ i = .int .i64 k ∧ Hid (Own cc 34 3 wr w.heap.size ov ((cs.take k).map (apC s t))) ∧ Below w.heap.size w wr)
    case atStart => exact ⟨0, by omega, rfl, HO3, hb03⟩
    case round =>
      obtain ⟨k, hk, rfl, HO, hbe⟩ := hrel
      obtain ⟨ov, hov⟩ : ∃ ov, ov = u3 := ⟨_, rfl⟩
      subst hov
      clear HO3
      by_cases hlt : k < cs.length
      · obtain ⟨b, off, rfl, hb, hcell⟩ := hr (by omega)
        obtain ⟨c, hck⟩ := get_some hlt
        obtain ⟨g1, g2, g3⟩ := candAt (hcell.keep (w' := wr) fun p hp => hbe.cell (by omega)) hck
        have HC := hide hck
        clear hck
        by_cases h1 : c.node = s
        · have e1 : (c.node == s) = true := by simp [h1]
          have HE := hide (apC_s (b := t) h1)
          by_cases h2 : c.node = t
          · have e2 : (c.node == t) = true := by simp [h2]
            clear h1 h2
            go_upto_region 14 with fail
            obtain ⟨wd, hwd⟩ : ∃ wd, wd = wr.alloc (Obj.cells #[Value.int IntKind.i64 c.node, Value.int IntKind.i64 c.prio, Value.int IntKind.i64 2] 34) := ⟨_, rfl⟩
            have hOd : Own cc 34 3 wd w.heap.size ov ((cs.take k).map (apC s t)) := by rw [hwd]; exact HO.out.below (below1 _ _)
            have hbd : Below w.heap.size w wd := by rw [hwd]; exact hbe.alloc hbe.size _
            have hBd : Blk wd wr.heap.size 34 #[Value.int IntKind.i64 c.node, Value.int IntKind.i64 c.prio, Value.int IntKind.i64 2] := by rw [hwd]; exact Blk.new _ _ _
            rw [← hwd]
            have t0 := hBd.cell 0
            have t1 := hBd.cell 1
            have t2 := hBd.cell 2
            clear hwd hBd g1 g2 g3
            have htl : ((cs.take k).map (apC s t)).length = k := by simp; omega
            have hx1 : ((cs.take k).map (apC s t)).length + 1 ≤ maxLen := by rw [htl]; unfold maxLen; omega
            have hx2 : (((cs.take k).map (apC s t)).length + 1) * 24 ≤ 140737488355328 := by rw [htl]; omega
            have hx4 : w.heap.size ≤ (wd.alloc (Obj.cells (cc ⟨c.node, c.prio, 2⟩).toArray 34)).heap.size := by have := hbd.size; simp; omega
            have hlow : ∀ q, ov.ownBlock = some q → w.heap.size ≤ q := fun q hq => (World.ownsRow.lt hOd q hq).1
            have HTL := hide htl
            clear htl
            go_wp2_with (at_builtin; refine wpList_append_own _ rfl (.tmp 39) (.tmp 41) 25 rfl w.heap.size 34 i0 _ 3 24 Try.underlying25 hi hz0 hz1 hz2 rfl (by decide) ov ((cs.take k).map (apC s t)).length (((cs.take k).map (apC s t)).flatMap cc) rfl (hOd.alloc _) ⟨wd.heap.size, 0, none⟩ 1 1 (cc ⟨c.node, c.prio, 2⟩) rfl rfl (news_at wd _ _) (cc_oneA _) hx1 hx2 hx4 ?_; intro v9 w9 own9 hg9 hnil9)
            have hO9 : Own cc 34 3 w9 w.heap.size v9 ((cs.take (k + 1)).map (apC s t)) := own_snoc' (by rw [map_take HC.out, HE.out]) own9
            have hb9 : Below w.heap.size w w9 := (hbd.alloc hbd.size _).grown hg9 hx4 hlow
            have HO9 := hide hO9
            clear own9 hg9 hnil9 hlow hOd hO9
            go_wp2
            go_roundg (gk - 1)
            case measure => omega
            case rel => exact ⟨k + 1, by omega, by go_num, HO9, hb9⟩
          · have e2 : (c.node == t) = false := by simp [h2]
            clear h1 h2
            go_upto_region 14 with fail
            obtain ⟨wd, hwd⟩ : ∃ wd, wd = wr.alloc (Obj.cells #[Value.int IntKind.i64 c.node, Value.int IntKind.i64 c.prio, Value.int IntKind.i64 2] 34) := ⟨_, rfl⟩
            have hOd : Own cc 34 3 wd w.heap.size ov ((cs.take k).map (apC s t)) := by rw [hwd]; exact HO.out.below (below1 _ _)
            have hbd : Below w.heap.size w wd := by rw [hwd]; exact hbe.alloc hbe.size _
            have hBd : Blk wd wr.heap.size 34 #[Value.int IntKind.i64 c.node, Value.int IntKind.i64 c.prio, Value.int IntKind.i64 2] := by rw [hwd]; exact Blk.new _ _ _
            rw [← hwd]
            have t0 := hBd.cell 0
            have t1 := hBd.cell 1
            have t2 := hBd.cell 2
            clear hwd hBd g1 g2 g3
            have htl : ((cs.take k).map (apC s t)).length = k := by simp; omega
            have hx1 : ((cs.take k).map (apC s t)).length + 1 ≤ maxLen := by rw [htl]; unfold maxLen; omega
            have hx2 : (((cs.take k).map (apC s t)).length + 1) * 24 ≤ 140737488355328 := by rw [htl]; omega
            have hx4 : w.heap.size ≤ (wd.alloc (Obj.cells (cc ⟨c.node, c.prio, 2⟩).toArray 34)).heap.size := by have := hbd.size; simp; omega
            have hlow : ∀ q, ov.ownBlock = some q → w.heap.size ≤ q := fun q hq => (World.ownsRow.lt hOd q hq).1
            have HTL := hide htl
            clear htl
            go_wp2_with (at_builtin; refine wpList_append_own _ rfl (.tmp 39) (.tmp 41) 25 rfl w.heap.size 34 i0 _ 3 24 Try.underlying25 hi hz0 hz1 hz2 rfl (by decide) ov ((cs.take k).map (apC s t)).length (((cs.take k).map (apC s t)).flatMap cc) rfl (hOd.alloc _) ⟨wd.heap.size, 0, none⟩ 1 1 (cc ⟨c.node, c.prio, 2⟩) rfl rfl (news_at wd _ _) (cc_oneA _) hx1 hx2 hx4 ?_; intro v9 w9 own9 hg9 hnil9)
            have hO9 : Own cc 34 3 w9 w.heap.size v9 ((cs.take (k + 1)).map (apC s t)) := own_snoc' (by rw [map_take HC.out, HE.out]) own9
            have hb9 : Below w.heap.size w w9 := (hbd.alloc hbd.size _).grown hg9 hx4 hlow
            have HO9 := hide hO9
            clear own9 hg9 hnil9 hlow hOd hO9
            go_wp2
            go_roundg (gk - 1)
            case measure => omega
            case rel => exact ⟨k + 1, by omega, by go_num, HO9, hb9⟩
        · have e1 : (c.node == s) = false := by simp [h1]
          by_cases h2 : c.node = t
          · have e2 : (c.node == t) = true := by simp [h2]
            have HE := hide (apC_b h1 h2)
            clear h1 h2
            go_upto_region 14 with fail
            obtain ⟨wd, hwd⟩ : ∃ wd, wd = wr.alloc (Obj.cells #[Value.int IntKind.i64 c.node, Value.int IntKind.i64 c.prio, Value.int IntKind.i64 1] 34) := ⟨_, rfl⟩
            have hOd : Own cc 34 3 wd w.heap.size ov ((cs.take k).map (apC s t)) := by rw [hwd]; exact HO.out.below (below1 _ _)
            have hbd : Below w.heap.size w wd := by rw [hwd]; exact hbe.alloc hbe.size _
            have hBd : Blk wd wr.heap.size 34 #[Value.int IntKind.i64 c.node, Value.int IntKind.i64 c.prio, Value.int IntKind.i64 1] := by rw [hwd]; exact Blk.new _ _ _
            rw [← hwd]
            have t0 := hBd.cell 0
            have t1 := hBd.cell 1
            have t2 := hBd.cell 2
            clear hwd hBd g1 g2 g3
            have htl : ((cs.take k).map (apC s t)).length = k := by simp; omega
            have hx1 : ((cs.take k).map (apC s t)).length + 1 ≤ maxLen := by rw [htl]; unfold maxLen; omega
            have hx2 : (((cs.take k).map (apC s t)).length + 1) * 24 ≤ 140737488355328 := by rw [htl]; omega
            have hx4 : w.heap.size ≤ (wd.alloc (Obj.cells (cc ⟨c.node, c.prio, 1⟩).toArray 34)).heap.size := by have := hbd.size; simp; omega
            have hlow : ∀ q, ov.ownBlock = some q → w.heap.size ≤ q := fun q hq => (World.ownsRow.lt hOd q hq).1
            have HTL := hide htl
            clear htl
            go_wp2_with (at_builtin; refine wpList_append_own _ rfl (.tmp 39) (.tmp 41) 25 rfl w.heap.size 34 i0 _ 3 24 Try.underlying25 hi hz0 hz1 hz2 rfl (by decide) ov ((cs.take k).map (apC s t)).length (((cs.take k).map (apC s t)).flatMap cc) rfl (hOd.alloc _) ⟨wd.heap.size, 0, none⟩ 1 1 (cc ⟨c.node, c.prio, 1⟩) rfl rfl (news_at wd _ _) (cc_oneA _) hx1 hx2 hx4 ?_; intro v9 w9 own9 hg9 hnil9)
            have hO9 : Own cc 34 3 w9 w.heap.size v9 ((cs.take (k + 1)).map (apC s t)) := own_snoc' (by rw [map_take HC.out, HE.out]) own9
            have hb9 : Below w.heap.size w w9 := (hbd.alloc hbd.size _).grown hg9 hx4 hlow
            have HO9 := hide hO9
            clear own9 hg9 hnil9 hlow hOd hO9
            go_wp2
            go_roundg (gk - 1)
            case measure => omega
            case rel => exact ⟨k + 1, by omega, by go_num, HO9, hb9⟩
          · have e2 : (c.node == t) = false := by simp [h2]
            have HE := hide (apC_n h1 h2)
            clear h1 h2
            go_upto_region 14 with fail
            obtain ⟨wd, hwd⟩ : ∃ wd, wd = wr.alloc (Obj.cells #[Value.int IntKind.i64 c.node, Value.int IntKind.i64 c.prio, Value.int IntKind.i64 0] 34) := ⟨_, rfl⟩
            have hOd : Own cc 34 3 wd w.heap.size ov ((cs.take k).map (apC s t)) := by rw [hwd]; exact HO.out.below (below1 _ _)
            have hbd : Below w.heap.size w wd := by rw [hwd]; exact hbe.alloc hbe.size _
            have hBd : Blk wd wr.heap.size 34 #[Value.int IntKind.i64 c.node, Value.int IntKind.i64 c.prio, Value.int IntKind.i64 0] := by rw [hwd]; exact Blk.new _ _ _
            rw [← hwd]
            have t0 := hBd.cell 0
            have t1 := hBd.cell 1
            have t2 := hBd.cell 2
            clear hwd hBd g1 g2 g3
            have htl : ((cs.take k).map (apC s t)).length = k := by simp; omega
            have hx1 : ((cs.take k).map (apC s t)).length + 1 ≤ maxLen := by rw [htl]; unfold maxLen; omega
            have hx2 : (((cs.take k).map (apC s t)).length + 1) * 24 ≤ 140737488355328 := by rw [htl]; omega
            have hx4 : w.heap.size ≤ (wd.alloc (Obj.cells (cc ⟨c.node, c.prio, 0⟩).toArray 34)).heap.size := by have := hbd.size; simp; omega
            have hlow : ∀ q, ov.ownBlock = some q → w.heap.size ≤ q := fun q hq => (World.ownsRow.lt hOd q hq).1
            have HTL := hide htl
            clear htl
            go_wp2_with (at_builtin; refine wpList_append_own _ rfl (.tmp 39) (.tmp 41) 25 rfl w.heap.size 34 i0 _ 3 24 Try.underlying25 hi hz0 hz1 hz2 rfl (by decide) ov ((cs.take k).map (apC s t)).length (((cs.take k).map (apC s t)).flatMap cc) rfl (hOd.alloc _) ⟨wd.heap.size, 0, none⟩ 1 1 (cc ⟨c.node, c.prio, 0⟩) rfl rfl (news_at wd _ _) (cc_oneA _) hx1 hx2 hx4 ?_; intro v9 w9 own9 hg9 hnil9)
            have hO9 : Own cc 34 3 w9 w.heap.size v9 ((cs.take (k + 1)).map (apC s t)) := own_snoc' (by rw [map_take HC.out, HE.out]) own9
            have hb9 : Below w.heap.size w w9 := (hbd.alloc hbd.size _).grown hg9 hx4 hlow
            have HO9 := hide hO9
            clear own9 hg9 hnil9 hlow hOd hO9
            go_wp2
            go_roundg (gk - 1)
            case measure => omega
            case rel => exact ⟨k + 1, by omega, by go_num, HO9, hb9⟩
      · have hO := HO.out
        rw [List.take_of_length_le (by omega)] at hO
        have HO' := hide hO
        clear hO
        go_wp2
        go_ret
        exact ⟨_, rfl, HO'.out, hbe⟩
  · have hb : validB cs = false := tb_no hV
    have hap : appL cs = [] := by unfold appL; rw [if_neg (by rw [hb]; decide)]
    rw [hap]
    clear hV hap
    have hb0 := below1 w (.cells #[] 34)
    have hO0 := own_fresh (enc := cc) (s := 3) w 34
    go_enter Try.func24, Try.ntmps24
    go_wp2_with fail
    refine (specValid_any v cs _ (hv.up hb0) hn).mono ?_
    rintro e w1 ⟨rfl, hb1⟩
    rw [hb]
    have hO1 := hO0.below hb1
    have hb01 := hb0.trans (hb1.mono hb0.size)
    go_wp2
    go_ret
    exact ⟨_, rfl, hO1, hb01⟩
end Go.Proofs.Ytkldfjlgphapeaa
