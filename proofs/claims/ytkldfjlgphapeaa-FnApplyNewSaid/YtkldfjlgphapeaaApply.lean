/- Applying an election, walked: the program's and the reference's SpeakerApply return the same list; comparing lists; marking and reading marks. Conditions: at most 1048576 candidates. -/
import Derived.Test.YtkldfjlgphapeaaElectI
import Derived.Test.YtkldfjlgphapeaaCandS
import Derived.Test.YtkldfjlgphapeaaBase2
import Derived.Lib.SliceRun
namespace Go.Proofs.Ytkldfjlgphapeaa
open Go.RowKit

/-- One candidate behind the election. -/
noncomputable def apC (s b : Int) (c : Cand) : Cand := open Classical in ⟨c.node, c.prio, if c.node = s then 2 else if c.node = b then 1 else 0⟩
noncomputable def appL (cs : List Cand) : List Cand := if validB cs = true then cs.map (apC (spk cs) (bak cs)) else []
theorem appL_len (cs : List Cand) : (appL cs).length ≤ cs.length := by
  unfold appL
  split <;> simp

theorem cc_oneA (c : Cand) : ∀ u ∈ cc c, u.oneCell' = true := by
  intro u hu
  simp only [cc, List.mem_cons, List.not_mem_nil, or_false] at hu
  rcases hu with rfl | rfl | rfl <;> rfl
theorem clone_any (v : Value) (cs : List Cand) (w : World) (hv : SlR cc 3 w w.heap.size v cs) (hn : cs.length ≤ 1048576) :
    Calls Try.prog 36 #[v] w fun e w' => ∃ v', e = .returned v' ∧ Own cc 34 3 w' w.heap.size v' cs ∧ Below w.heap.size w w' := by
  have hv0 := hv
  obtain ⟨A, cap, rfl, hc, hr⟩ := hv
  have hsn := fun W => Go.Lib.run_eql_slice_nil (P := Try.prog) W 25 34 A cs.length cap 0 0 Try.underlying25
  obtain ⟨i0, hi, hz0, hz1, hz2⟩ := info_parts Try.infoC
  cases A with
  | none =>
    have hcs := hv0.none_nil
    subst hcs
    clear hv0 hr
    simp only [List.length_nil, Option.isNone_none] at hsn
    go_enter Try.func36, Try.ntmps36
    go_wp2
    go_ret
    exact ⟨_, rfl, Own.nil _ _ _ _ _, Below.refl _ _⟩
  | some ad =>
    have hnews := hv0.news cc_len
    have hx1 : 0 + cs.length ≤ maxLen := by unfold maxLen; omega
    have hx2 : (0 + cs.length) * 24 ≤ 140737488355328 := by omega
    have hl := flat_len cc_len cs
    have HL := hide hl
    clear hr hl hv0
    go_enter Try.func36, Try.ntmps36
    go_wp2_with (at_builtin; refine wpList_append_own _ rfl (.tmp 5) (.tmp 6) 25 rfl w.heap.size 34 i0 _ 3 24 Try.underlying25 hi hz0 hz1 hz2 rfl (by decide) (.slice (some ⟨w.heap.size, 0, none⟩) 0 0) 0 [] rfl (own_fresh (enc := cc) w _) ad cs.length cap (cs.flatMap cc) rfl HL.out (hnews _ (below1 _ _)) (flat_one cc_oneA cs) hx1 hx2 (by simp) ?_; intro v9 w9 own9 hg9 hnil9)
    have hb9 : Below w.heap.size w w9 := (below1 w _).grown hg9 (by simp) (fun k hk => by simp [Value.ownBlock] at hk; omega)
    have ho9 : Own cc 34 3 w9 w.heap.size v9 cs := by simpa [Own] using own9
    clear own9 hg9 hnil9
    go_wp2
    go_ret
    exact ⟨_, rfl, ho9, hb9⟩

theorem apC_s {s b : Int} {c : Cand} (h : c.node = s) : apC s b c = ⟨c.node, c.prio, 2⟩ := by unfold apC; rw [if_pos h]
theorem apC_b {s b : Int} {c : Cand} (h : c.node ≠ s) (h' : c.node = b) : apC s b c = ⟨c.node, c.prio, 1⟩ := by unfold apC; rw [if_neg h, if_pos h']
theorem apC_n {s b : Int} {c : Cand} (h : c.node ≠ s) (h' : c.node ≠ b) : apC s b c = ⟨c.node, c.prio, 0⟩ := by unfold apC; rw [if_neg h, if_neg h']

set_option maxHeartbeats 800000 in
theorem speakerApply_any (v : Value) (cs : List Cand) (w : World) (hv : SlR cc 3 w w.heap.size v cs) (hn : cs.length ≤ 1048576) :
    Calls Try.prog 23 #[v] w fun e w' => ∃ v', e = .returned v' ∧ Own cc 34 3 w' w.heap.size v' (appL cs) ∧ Below w.heap.size w w' := by
  by_cases hV : Valid cs
  · have hb : validB cs = true := tb_yes hV
    have hap : appL cs = cs.map (apC (spk cs) (bak cs)) := by unfold appL; rw [if_pos hb]
    rw [hap]
    have HV := hide hV
    clear hV hap
    obtain ⟨s, hs⟩ : ∃ s, s = spk cs := ⟨_, rfl⟩
    obtain ⟨t, ht⟩ : ∃ t, t = bak cs := ⟨_, rfl⟩
    rw [← hs, ← ht]
    have HS := hide hs
    have HT := hide ht
    clear hs ht
    go_enter Try.func23, Try.ntmps23
    go_wp2_with fail
    refine (candidatesValid_any v cs _ hv hn).mono ?_
    rintro e w1 ⟨rfl, hb1⟩
    rw [hb]
    have hv1 := hv.up hb1
    go_wp2_with fail
    refine (clone_any v cs _ hv1 hn).mono ?_
    rintro e w2 ⟨x, rfl, hO2, hb2⟩
    have hb02 := hb1.trans (hb2.mono hb1.size)
    go_wp2_with fail
    refine (elect_any v cs _ (hv1.up hb2) hn HV.out).mono ?_
    rintro e w3 ⟨rfl, hb3⟩
    rw [← HS.out, ← HT.out]
    have hb03 := hb02.trans (hb3.mono hb02.size)
    have hO3 := (hO2.below hb3).low hb1.size
    have HO3 : Hid (Own cc 34 3 w3 w.heap.size x (upTo (apC s t) cs 0)) := hide (by rw [upTo_zero]; exact hO3)
    have hform : ∃ A cap, x = .slice A cs.length cap := by
      obtain ⟨A, cap, h, _⟩ := hO3.slr cc_len
      exact ⟨A, cap, h⟩
    obtain ⟨A, cap, rfl⟩ := hform
    clear hb1 hb2 hb3 hb02 hO2 hv1 hb hv HV HS HT
    go_wp2
    go_loopg [19] (cs.length) (fun gg i wr => ∃ k : Nat, k + gg = cs.length ∧ i = .int .i64 k ∧ Hid (Own cc 34 3 wr w.heap.size (.slice A cs.length cap) (upTo (apC s t) cs k)) ∧ Below w.heap.size w wr)
    case atStart => exact ⟨0, by omega, rfl, HO3, hb03⟩
    case round =>
      obtain ⟨k, hk, rfl, HO, hbe⟩ := hrel
      by_cases hlt : k < cs.length
      · have hul := upTo_len (apC s t) cs k
        obtain ⟨go, cap', hx, hgo1, hgo2⟩ := HO.out.form (by omega)
        have hA : A = some ⟨go, 0, none⟩ := by injection hx
        subst hA
        obtain ⟨c, hck⟩ := get_some hlt
        have hcell := HO.out.rows cc_len (by omega)
        obtain ⟨g1, g2, g3⟩ := candAt hcell (upTo_get hck)
        rw [Nat.zero_add] at g1 g2 g3
        have sl := HO.out.slot (k := k) (j := 2) hul.symm (by omega) (by decide)
        obtain ⟨_, sz⟩ := sl
        have HC := hide hck
        have HUL := hide hul
        clear hck hcell hul hx cap' HO3
        by_cases h1 : c.node = s
        · have e1 : (c.node == s) = true := by simp [h1]
          have HE := hide (apC_s (b := t) h1)
          clear h1
          go_wp2
          go_roundg (gk - 1)
          case measure => omega
          case rel => exact ⟨k + 1, by omega, by go_num, hide (by have h := HO.out.set cc_len (k := k) (j := 2) (x := c) (y := apC s t c) (u := _) HUL.out.symm (upTo_get HC.out) (by decide) (by rw [HE.out]; rfl); rw [upTo_set HC.out] at h; exact h), hbe.setCell hgo1 _⟩
        · have e1 : (c.node == s) = false := by simp [h1]
          by_cases h2 : c.node = t
          · have e2 : (c.node == t) = true := by simp [h2]
            have HE := hide (apC_b h1 h2)
            clear h1 h2
            go_wp2
            go_roundg (gk - 1)
            case measure => omega
            case rel => exact ⟨k + 1, by omega, by go_num, hide (by have h := HO.out.set cc_len (k := k) (j := 2) (x := c) (y := apC s t c) (u := _) HUL.out.symm (upTo_get HC.out) (by decide) (by rw [HE.out]; rfl); rw [upTo_set HC.out] at h; exact h), hbe.setCell hgo1 _⟩
          · have e2 : (c.node == t) = false := by simp [h2]
            have HE := hide (apC_n h1 h2)
            clear h1 h2
            go_wp2
            go_roundg (gk - 1)
            case measure => omega
            case rel => exact ⟨k + 1, by omega, by go_num, hide (by have h := HO.out.set cc_len (k := k) (j := 2) (x := c) (y := apC s t c) (u := _) HUL.out.symm (upTo_get HC.out) (by decide) (by rw [HE.out]; rfl); rw [upTo_set HC.out] at h; exact h), hbe.setCell hgo1 _⟩
      · have hO := HO.out
        rw [upTo_all _ _ (by omega)] at hO
        have HO' := hide hO
        clear hO
        go_wp2
        go_ret
        exact ⟨_, rfl, HO'.out, hbe⟩
  · have hb : validB cs = false := tb_no hV
    have hap : appL cs = [] := by unfold appL; rw [if_neg (by rw [hb]; decide)]
    rw [hap]
    clear hV hap
    go_enter Try.func23, Try.ntmps23
    go_wp2_with fail
    refine (candidatesValid_any v cs _ hv hn).mono ?_
    rintro e w1 ⟨rfl, hb1⟩
    rw [hb]
    go_wp2
    go_ret
    exact ⟨_, rfl, Own.nil _ _ _ _ _, hb1⟩
end Go.Proofs.Ytkldfjlgphapeaa
