/- The laws FnElect, FnElectSome, FnElectClaim, walked: each returns true for every code. Conditions: none. -/
import Derived.Test.YtkldfjlgphapeaaElectI
import Derived.Test.YtkldfjlgphapeaaElectQ
import Derived.Test.YtkldfjlgphapeaaDrawC
namespace Go.Proofs.Ytkldfjlgphapeaa
open Go.RowKit

theorem drawElect_any (v : Value) (bs : List Int) (w : World) (hv : SlR bc 1 w w.heap.size v bs) (hm : bs.length ≤ 9223372036854775807 ∧ ∀ n ∈ bs, 0 ≤ n ∧ n ≤ 255) :
    Calls Try.prog 20 #[v] w fun e w' => ∃ (x : Value) (cs : List Cand), e = .returned x ∧ Own cc 34 3 w' w.heap.size x cs ∧ cs.length ≤ 8 ∧ Below w.heap.size w w' := by
  have HM := hide hm
  clear hm
  go_enter Try.func20, Try.ntmps20
  go_wp2_with fail
  refine (open_any v bs _ hv HM.out).mono ?_
  rintro e w1 ⟨g, bs', rfl, hg, hR, hb1⟩
  go_wp2_with fail
  refine (drawCands_any bs' g 0 _ hR (by omega)).mono ?_
  rintro e w2 ⟨x, cs, rfl, hO, hn, hf⟩
  have hb2 := below_only (B := w.heap.size) hf hb1.size (fun k hk => by injection hk; omega)
  go_wp2
  go_ret
  exact ⟨x, cs, rfl, hO.low hb1.size, hn, hb1.trans hb2⟩
theorem drawApply_any (v : Value) (bs : List Int) (w : World) (hv : SlR bc 1 w w.heap.size v bs) (hm : bs.length ≤ 9223372036854775807 ∧ ∀ n ∈ bs, 0 ≤ n ∧ n ≤ 255) :
    Calls Try.prog 22 #[v] w fun e w' => ∃ (x : Value) (cs : List Cand), e = .returned x ∧ Own cc 34 3 w' w.heap.size x cs ∧ cs.length ≤ 8 ∧ Below w.heap.size w w' := by
  have HM := hide hm
  clear hm
  go_enter Try.func22, Try.ntmps22
  go_wp2_with fail
  refine (open_any v bs _ hv HM.out).mono ?_
  rintro e w1 ⟨g, bs', rfl, hg, hR, hb1⟩
  go_wp2_with fail
  refine (drawCands_any bs' g 0 _ hR (by omega)).mono ?_
  rintro e w2 ⟨x, cs, rfl, hO, hn, hf⟩
  have hb2 := below_only (B := w.heap.size) hf hb1.size (fun k hk => by injection hk; omega)
  go_wp2
  go_ret
  exact ⟨x, cs, rfl, hO.low hb1.size, hn, hb1.trans hb2⟩

theorem fieldC0 (a b c : Int) (W : World) : (Instr.field 34 (.agg #[.int .i64 a, .int .i64 b, .int .i64 c]) 0).run Try.prog W = .ok (.int .i64 a) W := by kernel_rfl
theorem fieldC1 (a b c : Int) (W : World) : (Instr.field 34 (.agg #[.int .i64 a, .int .i64 b, .int .i64 c]) 1).run Try.prog W = .ok (.int .i64 b) W := by kernel_rfl

set_option maxHeartbeats 400000 in
theorem candidate_any (v : Value) (cs : List Cand) (n : Int) (w : World) (hv : SlR cc 3 w w.heap.size v cs) (hn : cs.length ≤ 1048576) :
    Calls Try.prog 21 #[v, .int .i64 n] w fun e w' => ∃ c : Cand, e = .returned (.agg #[.int .i64 c.node, .int .i64 c.prio, .int .i64 c.claim]) ∧ ((c ∈ cs ∧ c.node = n) ∨ (c = ⟨-1, 0, 0⟩ ∧ ∀ d ∈ cs, d.node ≠ n)) ∧ Below w.heap.size w w' := by
  obtain ⟨A, cap, rfl, hc, hr⟩ := hv
  go_enter Try.func21, Try.ntmps21
  go_wp2
  go_loopg [5] (cs.length) (fun gg i wr => ∃ k : Nat, k + gg = cs.length ∧ i = .int .i64 k ∧ Hid (Blk wr w.heap.size 34 #[.int .i64 0, .int .i64 0, .int .i64 0]) ∧ Below w.heap.size w wr ∧ Hid (∀ i c, i < k → cs[i]? = some c → c.node ≠ n))
  case atStart => exact ⟨0, by omega, rfl, hide (Blk.new _ _ _), below1 _ _, hide (fun i c h => by omega)⟩
  case round =>
    obtain ⟨k, hk, rfl, HB, hbe, HV⟩ := hrel
    have u0 := HB.out.cell 0
    have u1 := HB.out.cell 1
    have u2 := HB.out.cell 2
    have z0 := HB.out.free 0
    have z1 := HB.out.free 1
    have z2 := HB.out.free 2
    by_cases hlt : k < cs.length
    · obtain ⟨b, off, rfl, hb, hcell⟩ := hr (by omega)
      obtain ⟨c, hck⟩ := get_some hlt
      obtain ⟨g1, g2, g3⟩ := candAt (hcell.keep (w' := wr) fun p hp => hbe.cell (by omega)) hck
      have HC := hide hck
      clear hck
      by_cases h : c.node = n
      · have hb1 : (c.node == n) = true := by simp [h]
        have H := hide h
        clear h
        go_wp2
        refine bodyPost_ret (v := .agg #[.int .i64 c.node, .int .i64 c.prio, .int .i64 c.claim]) (by simp [results, Try.results21, go_sem, u0, u1, u2]) rfl ⟨c, rfl, .inl ⟨List.mem_of_getElem? HC.out, H.out⟩, ?_⟩
        exact ((hbe.setCell (Nat.le_refl _) _).setCell (Nat.le_refl _) _).setCell (Nat.le_refl _) _
      · have hb1 : (c.node == n) = false := by simp [h]
        have H := hide h
        clear h
        go_wp2
        go_roundg (gk - 1)
        case measure => omega
        case rel =>
          refine ⟨k + 1, by omega, by go_num, HB, hbe, hide (fun i d hi hd => ?_)⟩
          rcases Nat.lt_succ_iff_lt_or_eq.1 hi with h' | h'
          · exact HV.out i d h' hd
          · subst h'; rw [HC.out] at hd; cases hd; exact H.out
    · go_wp2
      refine bodyPost_ret (v := .agg #[.int .i64 (-1), .int .i64 0, .int .i64 0]) (by simp [results, Try.results21, go_sem, u0, u1, u2]) rfl ⟨⟨-1, 0, 0⟩, rfl, .inr ⟨rfl, fun d hd => ?_⟩, ?_⟩
      · obtain ⟨i, hi⟩ := List.getElem?_of_mem hd
        exact HV.out i d (by have := get_lt hi; omega) hi
      · exact ((hbe.setCell (Nat.le_refl _) _).setCell (Nat.le_refl _) _).setCell (Nat.le_refl _) _

theorem cnt_next {cs : List Cand} {k : Nat} {c : Cand} (hk : cs[k]? = some c) : cnt (cs.drop k) = (if 0 < c.prio then 1 else 0) + cnt (cs.drop (k + 1)) := by
  rw [List.drop_eq_getElem_cons (get_lt hk)]
  simp only [cnt]
  rw [(List.getElem?_eq_some_iff.1 hk).2]


set_option maxHeartbeats 800000 in
theorem lawElectSome (v : Value) (bs : List Int) (w : World) (hv : SlR bc 1 w w.heap.size v bs) (hm : bs.length ≤ 9223372036854775807 ∧ ∀ n ∈ bs, 0 ≤ n ∧ n ≤ 255) :
    Calls Try.prog 5 #[v] w fun e w' => e = .returned (.bool true) ∧ Below w.heap.size w w' := by
  by_cases hl : 1048576 < bs.length
  · obtain ⟨A, cap, rfl, hc, hr⟩ := hv
    clear hr hm
    go_enter Try.func5, Try.ntmps5
    go_wp2
    go_ret
    exact ⟨rfl, Below.refl _ _⟩
  · have hvv := hv
    obtain ⟨A, cap, rfl, hc, hr⟩ := hvv
    clear hr
    have HM := hide hm
    clear hm
    go_enter Try.func5, Try.ntmps5
    go_wp2_with fail
    refine (drawElect_any _ bs _ hv HM.out).mono ?_
    rintro e w1 ⟨x, cs, rfl, hO1, hn, hb1⟩
    have hn' : cs.length ≤ 1048576 := by omega
    have hv1 := hO1.slr cc_len
    clear hO1
    obtain ⟨s, hs⟩ : ∃ s, s = if validB cs = true then spk cs else -1 := ⟨_, rfl⟩
    obtain ⟨t, ht⟩ : ∃ t, t = if validB cs = true then bak cs else -1 := ⟨_, rfl⟩
    have HS := hide hs
    have HT := hide ht
    clear hs ht
    go_wp2_with fail
    refine (speakerElect_any x cs _ hv1 hn').mono ?_
    rintro e w2 ⟨rfl, hb2⟩
    rw [← HS.out, ← HT.out]
    have hb02 := hb1.trans (hb2.mono hb1.size)
    have hv2 := hv1.up hb2
    go_wp2_with fail
    refine (specElect_any x cs _ hv2 hn').mono ?_
    rintro e w3 ⟨rfl, hb3⟩
    rw [← HS.out, ← HT.out]
    have hb03 := hb02.trans (hb3.mono hb02.size)
    have hv3 := hv2.up hb3
    have hne1 : (s != s) = false := by simp
    have hne2 : (t != t) = false := by simp
    have heq1 : (s == s) = true := by simp
    have heq2 : (t == t) = true := by simp
    go_wp2_with fail
    refine (specValid_any x cs _ hv3 hn').mono ?_
    rintro e w4 ⟨rfl, hb4⟩
    have hb04 := hb03.trans (hb4.mono hb03.size)
    have hv4 := hv3.up hb4
    clear hb1 hb2 hb3 hb4 hb02 hb03 hv1 hv2 hv3
    by_cases hV : ¬ Valid cs
    · rw [show validB cs = false from tb_no hV]
      clear hV
      go_wp2
      go_ret
      exact ⟨rfl, hb04⟩
    have hV : Valid cs := Classical.byContradiction hV
    have hB : validB cs = true := tb_yes hV
    rw [hB]
    have hs : s = spk cs := by rw [HS.out, if_pos hB]
    have ht : t = bak cs := by rw [HT.out, if_pos hB]
    clear hB HS HT
    have HV := hide hV
    have HS := hide hs
    have HT := hide ht
    clear hV hs ht
    have q1 := some_spk HV.out
    have q2 := some_bak HV.out
    rw [← HS.out] at q1
    rw [← HT.out] at q2
    have Q1 := hide q1
    have Q2 := hide q2
    clear q1 q2 HS HT HV
    obtain ⟨A', cap', rfl, hc', hr'⟩ := hv4
    go_wp2
    go_loopg [8, 9] (cs.length) (fun gg nv i wr => ∃ (k m : Nat), k + gg = cs.length ∧ i = .int .i64 k ∧ nv = .int .i64 m ∧ m ≤ k ∧ Below w4.heap.size w4 wr ∧ Hid (m + cnt (cs.drop k) = cnt cs))
    case atStart => exact ⟨0, 0, by omega, rfl, rfl, by omega, Below.refl _ _, hide (by simp)⟩
    case round =>
      obtain ⟨k, m, hk, rfl, rfl, hmk, hbe, HN⟩ := hrel
      by_cases hlt : k < cs.length
      · obtain ⟨b, off, rfl, hb, hcell⟩ := hr' (by omega)
        obtain ⟨c, hck⟩ := get_some hlt
        obtain ⟨g1, g2, g3⟩ := candAt (hcell.keep (w' := wr) fun p hp => hbe.cell (by omega)) hck
        have hcn := cnt_next hck
        clear hck
        by_cases hp : 0 < c.prio
        · rw [if_pos hp] at hcn
          have HCN := hide hcn
          clear hcn
          go_wp2
          go_roundg (gk - 1)
          case measure => omega
          case rel => exact ⟨k + 1, m + 1, by omega, by go_num, by go_num, by omega, hbe, hide (by have := HN.out; have := HCN.out; omega)⟩
        · rw [if_neg hp] at hcn
          have HCN := hide hcn
          clear hcn
          go_wp2
          go_roundg (gk - 1)
          case measure => omega
          case rel => exact ⟨k + 1, m, by omega, by go_num, rfl, by omega, hbe, hide (by have := HN.out; have := HCN.out; omega)⟩
      · have hmc : m = cnt cs := by have := HN.out; rw [List.drop_eq_nil_of_le (by omega)] at this; simpa [cnt] using this
        have hq1 := Q1.out
        have hq2 := Q2.out
        rw [← hmc] at hq1 hq2
        have hend := hb04.trans (hbe.mono hb04.size)
        clear hmc HN Q1 Q2
        by_cases h1 : 1 ≤ m
        · have p1 : 0 ≤ s := hq1.2 h1
          by_cases h2 : 2 ≤ m
          · have p2 : 0 ≤ t := hq2.2 h2
            clear hq1 hq2
            go_wp2
            go_ret
            refine ⟨ret_bool ?_, hend⟩
            simp
            omega
          · have p2 : ¬ 0 ≤ t := fun h => h2 (hq2.1 h)
            clear hq1 hq2
            go_wp2
            go_ret
            refine ⟨ret_bool ?_, hend⟩
            simp
            omega
        · have p1 : ¬ 0 ≤ s := fun h => h1 (hq1.1 h)
          have p2 : ¬ 0 ≤ t := fun h => h1 (by have := hq2.1 h; omega)
          have h2 : ¬ 2 ≤ m := by omega
          clear hq1 hq2
          go_wp2
          go_ret
          refine ⟨ret_bool ?_, hend⟩
          simp
          omega

theorem cand_is {cs : List Cand} (h : Valid cs) {s c : Cand} {n : Int} (hs : s ∈ cs) (hn : n = s.node) (hc : (c ∈ cs ∧ c.node = n) ∨ (c = ⟨-1, 0, 0⟩ ∧ ∀ d ∈ cs, d.node ≠ n)) : c = s := by
  rcases hc with ⟨h1, h2⟩ | ⟨_, h2⟩
  · exact pw_node (valid_pw h) h1 hs (h2.trans hn)
  · exact absurd hn.symm (h2 s hs)

set_option maxHeartbeats 800000 in
theorem lawElect (v : Value) (bs : List Int) (w : World) (hv : SlR bc 1 w w.heap.size v bs) (hm : bs.length ≤ 9223372036854775807 ∧ ∀ n ∈ bs, 0 ≤ n ∧ n ≤ 255) :
    Calls Try.prog 6 #[v] w fun e w' => e = .returned (.bool true) ∧ Below w.heap.size w w' := by
  by_cases hl : 1048576 < bs.length
  · obtain ⟨A, cap, rfl, hc, hr⟩ := hv
    clear hr hm
    go_enter Try.func6, Try.ntmps6
    go_wp2
    go_ret
    exact ⟨rfl, Below.refl _ _⟩
  · have hvv := hv
    obtain ⟨A, cap, rfl, hc, hr⟩ := hvv
    clear hr
    have HM := hide hm
    clear hm
    go_enter Try.func6, Try.ntmps6
    go_wp2_with fail
    refine (drawElect_any _ bs _ hv HM.out).mono ?_
    rintro e w1 ⟨x, cs, rfl, hO1, hn, hb1⟩
    have hn' : cs.length ≤ 1048576 := by omega
    have hv1 := hO1.slr cc_len
    clear hO1
    obtain ⟨s, hs⟩ : ∃ s, s = if validB cs = true then spk cs else -1 := ⟨_, rfl⟩
    obtain ⟨t, ht⟩ : ∃ t, t = if validB cs = true then bak cs else -1 := ⟨_, rfl⟩
    have HS := hide hs
    have HT := hide ht
    clear hs ht
    go_wp2_with fail
    refine (speakerElect_any x cs _ hv1 hn').mono ?_
    rintro e w2 ⟨rfl, hb2⟩
    rw [← HS.out, ← HT.out]
    have hb02 := hb1.trans (hb2.mono hb1.size)
    have hv2 := hv1.up hb2
    go_wp2_with fail
    refine (specElect_any x cs _ hv2 hn').mono ?_
    rintro e w3 ⟨rfl, hb3⟩
    rw [← HS.out, ← HT.out]
    have hb03 := hb02.trans (hb3.mono hb02.size)
    have hv3 := hv2.up hb3
    have hne1 : (s != s) = false := by simp
    have hne2 : (t != t) = false := by simp
    have heq1 : (s == s) = true := by simp
    have heq2 : (t == t) = true := by simp
    go_wp2_with fail
    refine (specValid_any x cs _ hv3 hn').mono ?_
    rintro e w4 ⟨rfl, hb4⟩
    have hb04 := hb03.trans (hb4.mono hb03.size)
    have hv4 := hv3.up hb4
    clear hb1 hb2 hb3 hb4 hb02 hb03 hv1 hv2 hv3
    by_cases hV : ¬ Valid cs
    · rw [show validB cs = false from tb_no hV]
      clear hV
      go_wp2
      go_ret
      exact ⟨rfl, hb04⟩
    have hV : Valid cs := Classical.byContradiction hV
    have hB : validB cs = true := tb_yes hV
    rw [hB]
    have hs : s = spk cs := by rw [HS.out, if_pos hB]
    have ht : t = bak cs := by rw [HT.out, if_pos hB]
    clear hB HS HT
    have HV := hide hV
    have HS := hide hs
    have HT := hide ht
    clear hV hs ht
    have hfd := fieldC1
    rcases spk_char HV.out with ⟨sc, hsc, hsc0, hse, _⟩ | ⟨hse, hno⟩
    · have hsm := (valid_mem HV.out hsc).1.1
      have s0 : 0 ≤ s := by rw [HS.out, hse]; exact hsm
      have HSE : Hid (s = sc.node) := hide (by rw [HS.out, hse])
      rcases bak_char HV.out with ⟨bc', hbc, hbc0, hbne, hbe, _⟩ | ⟨hbe, _⟩
      · have hbm := (valid_mem HV.out hbc).1.1
        have t0 : 0 ≤ t := by rw [HT.out, hbe]; exact hbm
        have HTE : Hid (t = bc'.node) := hide (by rw [HT.out, hbe])
        have hst : (s != t) = true := by rw [HS.out, HT.out, hbe]; simp; intro h; exact hbne h.symm
        clear hse hbe hbne HS HT
        go_wp2_with fail
        refine (candidate_any _ cs s _ hv4 hn').mono ?_
        rintro e w5 ⟨c1, rfl, hc1, hb5⟩
        have hb05 := hb04.trans (hb5.mono hb04.size)
        have hp1 : (c1.prio == 0) = false := by simp [cand_is HV.out hsc HSE.out hc1]; omega
        clear hc1
        go_wp2_with fail
        refine (candidate_any _ cs t _ (hv4.up hb5) hn').mono ?_
        rintro e w6 ⟨c2, rfl, hc2, hb6⟩
        have hb06 := hb05.trans (hb6.mono hb05.size)
        have hp2 : (c2.prio == 0) = false := by simp [cand_is HV.out hbc HTE.out hc2]; omega
        clear hc2
        go_wp2
        go_ret
        exact ⟨rfl, hb06⟩
      · have t0 : t = -1 := by rw [HT.out, hbe]
        clear hse hbe HS HT
        subst t0
        go_wp2_with fail
        refine (candidate_any _ cs s _ hv4 hn').mono ?_
        rintro e w5 ⟨c1, rfl, hc1, hb5⟩
        have hb05 := hb04.trans (hb5.mono hb04.size)
        have hp1 : (c1.prio == 0) = false := by simp [cand_is HV.out hsc HSE.out hc1]; omega
        clear hc1
        have hst : (s != -1) = true := by simp; omega
        go_wp2
        go_ret
        exact ⟨rfl, hb05⟩
    · have s0 : s = -1 := by rw [HS.out, hse]
      have t0 : t = -1 := by rw [HT.out]; exact bak_none HV.out fun c hc h => absurd h (hno c hc)
      clear hse HS HT hno
      subst s0
      subst t0
      go_wp2
      go_ret
      exact ⟨rfl, hb04⟩

set_option maxRecDepth 100000 in
set_option maxHeartbeats 1600000 in
theorem lawElectClaim (v : Value) (bs : List Int) (w : World) (hv : SlR bc 1 w w.heap.size v bs) (hm : bs.length ≤ 9223372036854775807 ∧ ∀ n ∈ bs, 0 ≤ n ∧ n ≤ 255) :
    Calls Try.prog 7 #[v] w fun e w' => e = .returned (.bool true) ∧ Below w.heap.size w w' := by
  by_cases hl : 1048576 < bs.length
  · obtain ⟨A, cap, rfl, hc, hr⟩ := hv
    clear hr hm
    go_enter Try.func7, Try.ntmps7
    go_wp2
    go_ret
    exact ⟨rfl, Below.refl _ _⟩
  · have hvv := hv
    obtain ⟨A, cap, rfl, hc, hr⟩ := hvv
    clear hr
    have HM := hide hm
    clear hm
    go_enter Try.func7, Try.ntmps7
    go_wp2_with fail
    refine (drawElect_any _ bs _ hv HM.out).mono ?_
    rintro e w1 ⟨x, cs, rfl, hO1, hn, hb1⟩
    have hn' : cs.length ≤ 1048576 := by omega
    have hv1 := hO1.slr cc_len
    clear hO1
    obtain ⟨s, hs⟩ : ∃ s, s = if validB cs = true then spk cs else -1 := ⟨_, rfl⟩
    obtain ⟨t, ht⟩ : ∃ t, t = if validB cs = true then bak cs else -1 := ⟨_, rfl⟩
    have HS := hide hs
    have HT := hide ht
    clear hs ht
    go_wp2_with fail
    refine (speakerElect_any x cs _ hv1 hn').mono ?_
    rintro e w2 ⟨rfl, hb2⟩
    rw [← HS.out, ← HT.out]
    have hb02 := hb1.trans (hb2.mono hb1.size)
    have hv2 := hv1.up hb2
    go_wp2_with fail
    refine (specElect_any x cs _ hv2 hn').mono ?_
    rintro e w3 ⟨rfl, hb3⟩
    rw [← HS.out, ← HT.out]
    have hb03 := hb02.trans (hb3.mono hb02.size)
    have hv3 := hv2.up hb3
    have hne1 : (s != s) = false := by simp
    have hne2 : (t != t) = false := by simp
    have heq1 : (s == s) = true := by simp
    have heq2 : (t == t) = true := by simp
    go_wp2_with fail
    refine (specValid_any x cs _ hv3 hn').mono ?_
    rintro e w4 ⟨rfl, hb4⟩
    have hb04 := hb03.trans (hb4.mono hb03.size)
    have hv4 := hv3.up hb4
    clear hb1 hb2 hb3 hb4 hb02 hb03 hv1 hv2 hv3
    by_cases hV : ¬ Valid cs
    · rw [show validB cs = false from tb_no hV]
      clear hV
      go_wp2
      go_ret
      exact ⟨rfl, hb04⟩
    have hV : Valid cs := Classical.byContradiction hV
    have hB : validB cs = true := tb_yes hV
    rw [hB]
    have hs : s = spk cs := by rw [HS.out, if_pos hB]
    have ht : t = bak cs := by rw [HT.out, if_pos hB]
    clear hB HS HT
    have HV := hide hV
    have HS := hide hs
    have HT := hide ht
    clear hV hs ht
    rcases spk_char HV.out with ⟨sc, hsc, hsc0, hse, hmax⟩ | ⟨hse, hno⟩
    · have hsm := (valid_mem HV.out hsc).1.1
      have s0 : 0 ≤ s := by rw [HS.out, hse]; exact hsm
      have HSE : Hid (s = sc.node) := hide (by rw [HS.out, hse])
      have HM := hide hmax
      clear hse HS HT hmax
      go_wp2_with fail
      refine (candidate_any _ cs s _ hv4 hn').mono ?_
      rintro e w5 ⟨c1, rfl, hc1, hb5⟩
      have hb05 := hb04.trans (hb5.mono hb04.size)
      have hcs : c1 = sc := cand_is HV.out hsc HSE.out hc1
      subst hcs
      clear hc1 HSE
      have hv5 := hv4.up hb5
      obtain ⟨A', cap', rfl, hc', hr'⟩ := hv5
      clear hv4
      go_wp2
      go_loopg [9] (cs.length) (fun gg i wr => ∃ k : Nat, k + gg = cs.length ∧ i = .int .i64 k ∧ Hid (Blk wr w5.heap.size 34 #[.int .i64 c1.node, .int .i64 c1.prio, .int .i64 c1.claim]) ∧ Below w5.heap.size w5 wr)
      case atStart => exact ⟨0, by omega, rfl, hide (Blk.new _ _ _), below1 _ _⟩
      case round =>
        obtain ⟨k, hk, rfl, HB, hbe⟩ := hrel
        have u0 := HB.out.cell 0
        have u1 := HB.out.cell 1
        have u2 := HB.out.cell 2
        have hgl := HB.out.lt
        have hne := Nat.ne_of_lt hgl
        by_cases hlt : k < cs.length
        · obtain ⟨b, off, rfl, hb, hcell⟩ := hr' (by omega)
          obtain ⟨c, hck⟩ := get_some hlt
          obtain ⟨g1, g2, g3⟩ := candAt (hcell.keep (w' := wr) fun p hp => hbe.cell (by omega)) hck
          have hnb := HM.out c (List.mem_of_getElem? hck)
          clear hck
          go_upto_region 13 with fail
          go_cut [101] (fun s wx => s = .bool false ∧ wx = wr.alloc (Obj.cells #[Value.int IntKind.i64 c.node, Value.int IntKind.i64 c.prio, Value.int IntKind.i64 c.claim] 34))
          case first =>
            by_cases hp : 0 < c.prio
            · rcases hnb hp with h1 | ⟨h1, h2 | ⟨h2, h3⟩⟩
              · have q1 : (c.claim == c1.claim) = false := by simp; omega
                clear hnb
                go_wp2_with fail
                go_meet
                exact ⟨congrArg Value.bool (decide_eq_false (by omega)), rfl⟩
              · have q0 : ¬ c1.claim < c.claim := by omega
                have q1 : (c.claim == c1.claim) = true := by simp [h1]
                have q2 : (c.prio == c1.prio) = false := by simp; omega
                clear hnb h1
                go_wp2_with fail
                go_meet
                exact ⟨congrArg Value.bool (decide_eq_false (by omega)), rfl⟩
              · have q0 : ¬ c1.claim < c.claim := by omega
                have q1 : (c.claim == c1.claim) = true := by simp [h1]
                have q3 : ¬ c1.prio < c.prio := by omega
                have q2 : (c.prio == c1.prio) = true := by simp [h2]
                clear hnb h1 h2
                go_wp2_with fail
                go_meet
                exact ⟨congrArg Value.bool (decide_eq_false (by omega)), rfl⟩
            · clear hnb
              go_wp2_with fail
              go_meet
              exact ⟨rfl, rfl⟩
          case rest =>
            obtain ⟨rfl, hw⟩ := hcut
            subst hw
            clear hnb
            go_wp2
            go_roundg (gk - 1)
            case measure => omega
            case rel => exact ⟨k + 1, by omega, by go_num, hide (HB.out.alloc _), hbe.alloc hbe.size _⟩
        · go_wp2
          go_ret
          exact ⟨rfl, hb05.trans (hbe.mono hb05.size)⟩
    · have s0 : s = -1 := by rw [HS.out, hse]
      have t0 : t = -1 := by rw [HT.out]; exact bak_none HV.out fun c hc h => absurd h (hno c hc)
      clear hse HS HT hno
      subst s0
      subst t0
      go_wp2
      go_ret
      exact ⟨rfl, hb04⟩
end Go.Proofs.Ytkldfjlgphapeaa
