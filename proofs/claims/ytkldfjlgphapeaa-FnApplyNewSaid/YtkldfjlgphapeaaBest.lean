/- The program's and the reference's choice of the best candidate, walked. Conditions: at most 1048576 candidates; for the reference, valid candidates. -/
import Derived.Test.YtkldfjlgphapeaaElectP
namespace Go.Proofs.Ytkldfjlgphapeaa
open Go.RowKit

theorem pb_next {q : Cand → Prop} {cs : List Cand} {k : Nat} {c : Cand} {acc : Option Cand} (hk : cs[k]? = some c) (h : pb q none cs = pb q acc (cs.drop k)) :
    pb q none cs = pb q (open Classical in if q c ∧ better acc c then some c else acc) (cs.drop (k + 1)) := by
  rw [h, List.drop_eq_getElem_cons (get_lt hk)]
  simp only [pb]
  rw [(List.getElem?_eq_some_iff.1 hk).2]
theorem pb_end {q : Cand → Prop} {cs : List Cand} {k : Nat} {acc : Option Cand} (hk : cs.length ≤ k) (h : pb q none cs = pb q acc (cs.drop k)) : pb q none cs = acc := by
  rw [h, List.drop_eq_nil_of_le hk]
  rfl
theorem pb_take {q : Cand → Prop} {cs : List Cand} {k : Nat} {c : Cand} {acc : Option Cand} (hk : cs[k]? = some c) (h : pb q none cs = pb q acc (cs.drop k)) (hq : q c) (hb : better acc c) :
    pb q none cs = pb q (some c) (cs.drop (k + 1)) := by rw [pb_next hk h, if_pos ⟨hq, hb⟩]
theorem pb_pass {q : Cand → Prop} {cs : List Cand} {k : Nat} {c : Cand} {acc : Option Cand} (hk : cs[k]? = some c) (h : pb q none cs = pb q acc (cs.drop k)) (hq : ¬ (q c ∧ better acc c)) :
    pb q none cs = pb q acc (cs.drop (k + 1)) := by rw [pb_next hk h, if_neg hq]
theorem better_iff {acc : Option Cand} {c : Cand} (hp : 0 < c.prio) : better acc c ↔ prioO acc ≤ c.prio := by
  cases acc with
  | none => exact ⟨fun _ => by simp only [prioO]; omega, fun _ a ha => by cases ha⟩
  | some a => exact ⟨fun h => h a rfl, fun h b hb => by cases hb; exact h⟩

/-! ### the three tests -/
theorem clo1 (c : Cand) (g : Nat) (n : Int) (w : World) (hg : w.cell? ⟨g, 0, none⟩ = some (.int .i64 n)) :
    Calls Try.prog 40 #[.agg #[.int .i64 c.node, .int .i64 c.prio, .int .i64 c.claim], .pointer (some ⟨g, 0, none⟩)] w fun e w' => e = .returned (.bool (tb (c.claim = n))) ∧ Below w.heap.size w w' := by
  have hgl : g < w.heap.size := World.block_lt_of_cell? w _ hg
  have hne : g ≠ w.heap.size := by omega
  have hne' : w.heap.size ≠ g := by omega
  by_cases h : c.claim = n
  · have hb : (c.claim == n) = true := by simp [h]
    rw [tb_yes h]
    clear h
    go_enter Try.func40, Try.ntmps40
    go_wp2
    go_ret
    exact ⟨by simp, below1 _ _⟩
  · have hb : (c.claim == n) = false := by simp [h]
    rw [tb_no h]
    clear h
    go_enter Try.func40, Try.ntmps40
    go_wp2
    go_ret
    exact ⟨by simp, below1 _ _⟩
theorem clo2 (c : Cand) (g : Nat) (n : Int) (w : World) (hg : w.cell? ⟨g, 0, none⟩ = some (.int .i64 n)) :
    Calls Try.prog 41 #[.agg #[.int .i64 c.node, .int .i64 c.prio, .int .i64 c.claim], .pointer (some ⟨g, 0, none⟩)] w fun e w' => e = .returned (.bool (tb (c.node ≠ n ∧ c.claim ≠ 0))) ∧ Below w.heap.size w w' := by
  have hgl : g < w.heap.size := World.block_lt_of_cell? w _ hg
  have hne : g ≠ w.heap.size := by omega
  have hne' : w.heap.size ≠ g := by omega
  by_cases h : c.node = n
  · have hb : (c.node != n) = false := by simp [h]
    rw [tb_no (fun h' => h'.1 h)]
    clear h
    go_enter Try.func41, Try.ntmps41
    go_wp2
    go_ret
    exact ⟨by simp, below1 _ _⟩
  · have hb : (c.node != n) = true := by simp [h]
    by_cases h0 : c.claim = 0
    · rw [tb_no (fun h' => h'.2 h0)]
      have hb0 : (c.claim != 0) = false := by simp [h0]
      clear h h0
      go_enter Try.func41, Try.ntmps41
      go_wp2
      go_ret
      exact ⟨by simp, below1 _ _⟩
    · rw [tb_yes ⟨h, h0⟩]
      have hb0 : (c.claim != 0) = true := by simp [h0]
      clear h h0
      go_enter Try.func41, Try.ntmps41
      go_wp2
      go_ret
      exact ⟨by simp, below1 _ _⟩
theorem clo3 (c : Cand) (g : Nat) (n : Int) (w : World) (hg : w.cell? ⟨g, 0, none⟩ = some (.int .i64 n)) :
    Calls Try.prog 42 #[.agg #[.int .i64 c.node, .int .i64 c.prio, .int .i64 c.claim], .pointer (some ⟨g, 0, none⟩)] w fun e w' => e = .returned (.bool (tb (c.node ≠ n))) ∧ Below w.heap.size w w' := by
  have hgl : g < w.heap.size := World.block_lt_of_cell? w _ hg
  have hne : g ≠ w.heap.size := by omega
  have hne' : w.heap.size ≠ g := by omega
  by_cases h : c.node = n
  · have hb : (c.node != n) = false := by simp [h]
    rw [tb_no (fun h' => h' h)]
    clear h
    go_enter Try.func42, Try.ntmps42
    go_wp2
    go_ret
    exact ⟨by simp, below1 _ _⟩
  · have hb : (c.node != n) = true := by simp [h]
    rw [tb_yes h]
    clear h
    go_enter Try.func42, Try.ntmps42
    go_wp2
    go_ret
    exact ⟨by simp, below1 _ _⟩

set_option maxHeartbeats 800000 in
theorem best_clo1 (v : Value) (cs : List Cand) (g : Nat) (n : Int) (w : World) (hv : SlR cc 3 w w.heap.size v cs) (hn : cs.length ≤ 1048576) (hg : w.cell? ⟨g, 0, none⟩ = some (.int .i64 n)) :
    Calls Try.prog 39 #[v, .func (.func 40) #[] #[.pointer (some ⟨g, 0, none⟩)]] w fun e w' => e = .returned (.int .i64 (nodeO (pb (fun c => 0 < c.prio ∧ c.claim = n) none cs))) ∧ Below w.heap.size w w' := by
  have hgb : g < w.heap.size := World.block_lt_of_cell? w _ hg
  obtain ⟨q, hq⟩ : ∃ q : Cand → Prop, q = fun c => 0 < c.prio ∧ c.claim = n := ⟨_, rfl⟩
  rw [← hq]
  have HQ := hide hq
  clear hq
  obtain ⟨A, cap, rfl, hc, hr⟩ := hv
  go_enter Try.func39, Try.ntmps39
  go_wp2
  go_loopg [5, 6, 11] (cs.length) (fun gg nd pr i wr => ∃ (k : Nat) (acc : Option Cand), k + gg = cs.length ∧ i = .int .i64 k ∧ nd = .int .i64 (nodeO acc) ∧ pr = .int .i64 (prioO acc) ∧ Below w.heap.size w wr ∧
    Hid (pb q none cs = pb q acc (cs.drop k)))
  case atStart => exact ⟨0, none, by omega, rfl, rfl, rfl, Below.refl _ _, hide rfl⟩
  case round =>
    obtain ⟨k, acc, hk, rfl, rfl, rfl, hbe, HV⟩ := hrel
    by_cases hlt : k < cs.length
    · obtain ⟨b, off, rfl, hb, hcell⟩ := hr (by omega)
      obtain ⟨c, hck⟩ := get_some hlt
      obtain ⟨g1, g2, g3⟩ := candAt (hcell.keep (w' := wr) fun p hp => hbe.cell (by omega)) hck
      have HC := hide hck
      clear hck
      go_upto_region 5 with fail
      obtain ⟨wd, hwd⟩ : ∃ wd, wd = wr.alloc (Obj.cells #[Value.int IntKind.i64 c.node, Value.int IntKind.i64 c.prio, Value.int IntKind.i64 c.claim] 34) := ⟨_, rfl⟩
      have hbc : Below w.heap.size w wd := by rw [hwd]; exact hbe.alloc hbe.size _
      have f1 : wd.cell? ⟨wr.heap.size, 0, none⟩ = some (.int .i64 c.node) := by rw [hwd]; simp [go_sem]
      have f2 : wd.cell? ⟨wr.heap.size, 1, none⟩ = some (.int .i64 c.prio) := by rw [hwd]; simp [go_sem]
      have f3 : wd.cell? ⟨wr.heap.size, 2, none⟩ = some (.int .i64 c.claim) := by rw [hwd]; simp [go_sem]
      have hsz : wr.heap.size < wd.heap.size := World.block_lt_of_cell? wd _ f1
      have hgc : wd.cell? ⟨g, 0, none⟩ = some (.int .i64 n) := (hbc.cell (by exact hgb)).trans hg
      rw [← hwd]
      clear hwd
      go_cut [28] (fun s wx => s = .bool (tb (q c ∧ better acc c)) ∧ Below wd.heap.size wd wx)
      case first =>
        by_cases h1 : 0 < c.prio
        · by_cases h2 : c.claim = n
          · have HG := hide hgc
            have H2 := hide h2
            clear hgc hg h2
            by_cases h3 : prioO acc ≤ c.prio
            · go_wp2_with (go_at_call 40; refine (clo1 c g n _ HG.out).mono ?_; rintro e w1 ⟨rfl, hb1⟩; rw [tb_yes H2.out]; have p2 := (hb1.cell (p := ⟨wr.heap.size, 1, none⟩) hsz).trans f2)
              go_meet
              refine ⟨?_, by assumption⟩
              rw [tb_yes ⟨by rw [HQ.out]; exact ⟨h1, H2.out⟩, (better_iff h1).2 h3⟩]
            · go_wp2_with (go_at_call 40; refine (clo1 c g n _ HG.out).mono ?_; rintro e w1 ⟨rfl, hb1⟩; rw [tb_yes H2.out]; have p2 := (hb1.cell (p := ⟨wr.heap.size, 1, none⟩) hsz).trans f2)
              go_meet
              refine ⟨?_, by assumption⟩
              rw [tb_no (fun h => by have := (better_iff h1).1 h.2; omega)]
              first | rfl | exact congrArg Value.bool (decide_eq_false (by omega))
          · have HG := hide hgc
            have H2 := hide h2
            clear hgc hg h2
            go_wp2_with (go_at_call 40; refine (clo1 c g n _ HG.out).mono ?_; rintro e w1 ⟨rfl, hb1⟩; rw [tb_no H2.out])
            go_meet
            refine ⟨?_, by assumption⟩
            rw [tb_no (fun h => by have h' := h.1; rw [HQ.out] at h'; exact H2.out h'.2)]
        · go_wp2_with fail
          go_meet
          refine ⟨?_, Below.refl _ _⟩
          rw [tb_no (fun h => by have h' := h.1; rw [HQ.out] at h'; have h'' := h'.1; omega)]
      case rest =>
        obtain ⟨rfl, hb2⟩ := hcut
        have e1 := (hb2.cell (p := ⟨wr.heap.size, 0, none⟩) hsz).trans f1
        have e2 := (hb2.cell (p := ⟨wr.heap.size, 1, none⟩) hsz).trans f2
        have hbx := hbc.trans (hb2.mono hbc.size)
        clear f1 f2 f3 hgc hg g1 g2 g3
        by_cases ht : q c ∧ better acc c
        · rw [tb_yes ht]
          have HT := hide ht
          clear ht
          go_upto_region 6 with fail
          have x1 := fun x => wext_cell wc x e1
          have x2 := fun x => wext_cell wc x e2
          refine region_q (by kernel_rfl) (by kernel_rfl) ?_
          repeat (go_big_quiet_step ((first | (fail))))
          refine wpQuiet_nil ?_
          intro wy hby
          have hbn := hbx.trans (hby.mono hbx.size)
          go_wp2
          go_roundg (gk - 1)
          case measure => omega
          case rel => exact ⟨k + 1, some c, by omega, by go_num, rfl, rfl, hbn, hide (pb_take HC.out HV.out HT.out.1 HT.out.2)⟩
        · rw [tb_no ht]
          have HT := hide ht
          clear ht
          go_wp2
          go_roundg (gk - 1)
          case measure => omega
          case rel => exact ⟨k + 1, acc, by omega, by go_num, rfl, rfl, hbx, hide (pb_pass HC.out HV.out HT.out)⟩
    · go_wp2
      go_ret
      exact ⟨ret_i64 (by rw [pb_end (by omega) HV.out]), hbe⟩
set_option maxHeartbeats 800000 in
theorem best_clo2 (v : Value) (cs : List Cand) (g : Nat) (n : Int) (w : World) (hv : SlR cc 3 w w.heap.size v cs) (hn : cs.length ≤ 1048576) (hg : w.cell? ⟨g, 0, none⟩ = some (.int .i64 n)) :
    Calls Try.prog 39 #[v, .func (.func 41) #[] #[.pointer (some ⟨g, 0, none⟩)]] w fun e w' => e = .returned (.int .i64 (nodeO (pb (fun c => 0 < c.prio ∧ (c.node ≠ n ∧ c.claim ≠ 0)) none cs))) ∧ Below w.heap.size w w' := by
  have hgb : g < w.heap.size := World.block_lt_of_cell? w _ hg
  obtain ⟨q, hq⟩ : ∃ q : Cand → Prop, q = fun c => 0 < c.prio ∧ (c.node ≠ n ∧ c.claim ≠ 0) := ⟨_, rfl⟩
  rw [← hq]
  have HQ := hide hq
  clear hq
  obtain ⟨A, cap, rfl, hc, hr⟩ := hv
  go_enter Try.func39, Try.ntmps39
  go_wp2
  go_loopg [5, 6, 11] (cs.length) (fun gg nd pr i wr => ∃ (k : Nat) (acc : Option Cand), k + gg = cs.length ∧ i = .int .i64 k ∧ nd = .int .i64 (nodeO acc) ∧ pr = .int .i64 (prioO acc) ∧ Below w.heap.size w wr ∧
    Hid (pb q none cs = pb q acc (cs.drop k)))
  case atStart => exact ⟨0, none, by omega, rfl, rfl, rfl, Below.refl _ _, hide rfl⟩
  case round =>
    obtain ⟨k, acc, hk, rfl, rfl, rfl, hbe, HV⟩ := hrel
    by_cases hlt : k < cs.length
    · obtain ⟨b, off, rfl, hb, hcell⟩ := hr (by omega)
      obtain ⟨c, hck⟩ := get_some hlt
      obtain ⟨g1, g2, g3⟩ := candAt (hcell.keep (w' := wr) fun p hp => hbe.cell (by omega)) hck
      have HC := hide hck
      clear hck
      go_upto_region 5 with fail
      obtain ⟨wd, hwd⟩ : ∃ wd, wd = wr.alloc (Obj.cells #[Value.int IntKind.i64 c.node, Value.int IntKind.i64 c.prio, Value.int IntKind.i64 c.claim] 34) := ⟨_, rfl⟩
      have hbc : Below w.heap.size w wd := by rw [hwd]; exact hbe.alloc hbe.size _
      have f1 : wd.cell? ⟨wr.heap.size, 0, none⟩ = some (.int .i64 c.node) := by rw [hwd]; simp [go_sem]
      have f2 : wd.cell? ⟨wr.heap.size, 1, none⟩ = some (.int .i64 c.prio) := by rw [hwd]; simp [go_sem]
      have f3 : wd.cell? ⟨wr.heap.size, 2, none⟩ = some (.int .i64 c.claim) := by rw [hwd]; simp [go_sem]
      have hsz : wr.heap.size < wd.heap.size := World.block_lt_of_cell? wd _ f1
      have hgc : wd.cell? ⟨g, 0, none⟩ = some (.int .i64 n) := (hbc.cell (by exact hgb)).trans hg
      rw [← hwd]
      clear hwd
      go_cut [28] (fun s wx => s = .bool (tb (q c ∧ better acc c)) ∧ Below wd.heap.size wd wx)
      case first =>
        by_cases h1 : 0 < c.prio
        · by_cases h2 : (c.node ≠ n ∧ c.claim ≠ 0)
          · have HG := hide hgc
            have H2 := hide h2
            clear hgc hg h2
            by_cases h3 : prioO acc ≤ c.prio
            · go_wp2_with (go_at_call 41; refine (clo2 c g n _ HG.out).mono ?_; rintro e w1 ⟨rfl, hb1⟩; rw [tb_yes H2.out]; have p2 := (hb1.cell (p := ⟨wr.heap.size, 1, none⟩) hsz).trans f2)
              go_meet
              refine ⟨?_, by assumption⟩
              rw [tb_yes ⟨by rw [HQ.out]; exact ⟨h1, H2.out⟩, (better_iff h1).2 h3⟩]
            · go_wp2_with (go_at_call 41; refine (clo2 c g n _ HG.out).mono ?_; rintro e w1 ⟨rfl, hb1⟩; rw [tb_yes H2.out]; have p2 := (hb1.cell (p := ⟨wr.heap.size, 1, none⟩) hsz).trans f2)
              go_meet
              refine ⟨?_, by assumption⟩
              rw [tb_no (fun h => by have := (better_iff h1).1 h.2; omega)]
              first | rfl | exact congrArg Value.bool (decide_eq_false (by omega))
          · have HG := hide hgc
            have H2 := hide h2
            clear hgc hg h2
            go_wp2_with (go_at_call 41; refine (clo2 c g n _ HG.out).mono ?_; rintro e w1 ⟨rfl, hb1⟩; rw [tb_no H2.out])
            go_meet
            refine ⟨?_, by assumption⟩
            rw [tb_no (fun h => by have h' := h.1; rw [HQ.out] at h'; exact H2.out h'.2)]
        · go_wp2_with fail
          go_meet
          refine ⟨?_, Below.refl _ _⟩
          rw [tb_no (fun h => by have h' := h.1; rw [HQ.out] at h'; have h'' := h'.1; omega)]
      case rest =>
        obtain ⟨rfl, hb2⟩ := hcut
        have e1 := (hb2.cell (p := ⟨wr.heap.size, 0, none⟩) hsz).trans f1
        have e2 := (hb2.cell (p := ⟨wr.heap.size, 1, none⟩) hsz).trans f2
        have hbx := hbc.trans (hb2.mono hbc.size)
        clear f1 f2 f3 hgc hg g1 g2 g3
        by_cases ht : q c ∧ better acc c
        · rw [tb_yes ht]
          have HT := hide ht
          clear ht
          go_upto_region 6 with fail
          have x1 := fun x => wext_cell wc x e1
          have x2 := fun x => wext_cell wc x e2
          refine region_q (by kernel_rfl) (by kernel_rfl) ?_
          repeat (go_big_quiet_step ((first | (fail))))
          refine wpQuiet_nil ?_
          intro wy hby
          have hbn := hbx.trans (hby.mono hbx.size)
          go_wp2
          go_roundg (gk - 1)
          case measure => omega
          case rel => exact ⟨k + 1, some c, by omega, by go_num, rfl, rfl, hbn, hide (pb_take HC.out HV.out HT.out.1 HT.out.2)⟩
        · rw [tb_no ht]
          have HT := hide ht
          clear ht
          go_wp2
          go_roundg (gk - 1)
          case measure => omega
          case rel => exact ⟨k + 1, acc, by omega, by go_num, rfl, rfl, hbx, hide (pb_pass HC.out HV.out HT.out)⟩
    · go_wp2
      go_ret
      exact ⟨ret_i64 (by rw [pb_end (by omega) HV.out]), hbe⟩
set_option maxHeartbeats 800000 in
theorem best_clo3 (v : Value) (cs : List Cand) (g : Nat) (n : Int) (w : World) (hv : SlR cc 3 w w.heap.size v cs) (hn : cs.length ≤ 1048576) (hg : w.cell? ⟨g, 0, none⟩ = some (.int .i64 n)) :
    Calls Try.prog 39 #[v, .func (.func 42) #[] #[.pointer (some ⟨g, 0, none⟩)]] w fun e w' => e = .returned (.int .i64 (nodeO (pb (fun c => 0 < c.prio ∧ c.node ≠ n) none cs))) ∧ Below w.heap.size w w' := by
  have hgb : g < w.heap.size := World.block_lt_of_cell? w _ hg
  obtain ⟨q, hq⟩ : ∃ q : Cand → Prop, q = fun c => 0 < c.prio ∧ c.node ≠ n := ⟨_, rfl⟩
  rw [← hq]
  have HQ := hide hq
  clear hq
  obtain ⟨A, cap, rfl, hc, hr⟩ := hv
  go_enter Try.func39, Try.ntmps39
  go_wp2
  go_loopg [5, 6, 11] (cs.length) (fun gg nd pr i wr => ∃ (k : Nat) (acc : Option Cand), k + gg = cs.length ∧ i = .int .i64 k ∧ nd = .int .i64 (nodeO acc) ∧ pr = .int .i64 (prioO acc) ∧ Below w.heap.size w wr ∧
    Hid (pb q none cs = pb q acc (cs.drop k)))
  case atStart => exact ⟨0, none, by omega, rfl, rfl, rfl, Below.refl _ _, hide rfl⟩
  case round =>
    obtain ⟨k, acc, hk, rfl, rfl, rfl, hbe, HV⟩ := hrel
    by_cases hlt : k < cs.length
    · obtain ⟨b, off, rfl, hb, hcell⟩ := hr (by omega)
      obtain ⟨c, hck⟩ := get_some hlt
      obtain ⟨g1, g2, g3⟩ := candAt (hcell.keep (w' := wr) fun p hp => hbe.cell (by omega)) hck
      have HC := hide hck
      clear hck
      go_upto_region 5 with fail
      obtain ⟨wd, hwd⟩ : ∃ wd, wd = wr.alloc (Obj.cells #[Value.int IntKind.i64 c.node, Value.int IntKind.i64 c.prio, Value.int IntKind.i64 c.claim] 34) := ⟨_, rfl⟩
      have hbc : Below w.heap.size w wd := by rw [hwd]; exact hbe.alloc hbe.size _
      have f1 : wd.cell? ⟨wr.heap.size, 0, none⟩ = some (.int .i64 c.node) := by rw [hwd]; simp [go_sem]
      have f2 : wd.cell? ⟨wr.heap.size, 1, none⟩ = some (.int .i64 c.prio) := by rw [hwd]; simp [go_sem]
      have f3 : wd.cell? ⟨wr.heap.size, 2, none⟩ = some (.int .i64 c.claim) := by rw [hwd]; simp [go_sem]
      have hsz : wr.heap.size < wd.heap.size := World.block_lt_of_cell? wd _ f1
      have hgc : wd.cell? ⟨g, 0, none⟩ = some (.int .i64 n) := (hbc.cell (by exact hgb)).trans hg
      rw [← hwd]
      clear hwd
      go_cut [28] (fun s wx => s = .bool (tb (q c ∧ better acc c)) ∧ Below wd.heap.size wd wx)
      case first =>
        by_cases h1 : 0 < c.prio
        · by_cases h2 : c.node ≠ n
          · have HG := hide hgc
            have H2 := hide h2
            clear hgc hg h2
            by_cases h3 : prioO acc ≤ c.prio
            · go_wp2_with (go_at_call 42; refine (clo3 c g n _ HG.out).mono ?_; rintro e w1 ⟨rfl, hb1⟩; rw [tb_yes H2.out]; have p2 := (hb1.cell (p := ⟨wr.heap.size, 1, none⟩) hsz).trans f2)
              go_meet
              refine ⟨?_, by assumption⟩
              rw [tb_yes ⟨by rw [HQ.out]; exact ⟨h1, H2.out⟩, (better_iff h1).2 h3⟩]
            · go_wp2_with (go_at_call 42; refine (clo3 c g n _ HG.out).mono ?_; rintro e w1 ⟨rfl, hb1⟩; rw [tb_yes H2.out]; have p2 := (hb1.cell (p := ⟨wr.heap.size, 1, none⟩) hsz).trans f2)
              go_meet
              refine ⟨?_, by assumption⟩
              rw [tb_no (fun h => by have := (better_iff h1).1 h.2; omega)]
              first | rfl | exact congrArg Value.bool (decide_eq_false (by omega))
          · have HG := hide hgc
            have H2 := hide h2
            clear hgc hg h2
            go_wp2_with (go_at_call 42; refine (clo3 c g n _ HG.out).mono ?_; rintro e w1 ⟨rfl, hb1⟩; rw [tb_no H2.out])
            go_meet
            refine ⟨?_, by assumption⟩
            rw [tb_no (fun h => by have h' := h.1; rw [HQ.out] at h'; exact H2.out h'.2)]
        · go_wp2_with fail
          go_meet
          refine ⟨?_, Below.refl _ _⟩
          rw [tb_no (fun h => by have h' := h.1; rw [HQ.out] at h'; have h'' := h'.1; omega)]
      case rest =>
        obtain ⟨rfl, hb2⟩ := hcut
        have e1 := (hb2.cell (p := ⟨wr.heap.size, 0, none⟩) hsz).trans f1
        have e2 := (hb2.cell (p := ⟨wr.heap.size, 1, none⟩) hsz).trans f2
        have hbx := hbc.trans (hb2.mono hbc.size)
        clear f1 f2 f3 hgc hg g1 g2 g3
        by_cases ht : q c ∧ better acc c
        · rw [tb_yes ht]
          have HT := hide ht
          clear ht
          go_upto_region 6 with fail
          have x1 := fun x => wext_cell wc x e1
          have x2 := fun x => wext_cell wc x e2
          refine region_q (by kernel_rfl) (by kernel_rfl) ?_
          repeat (go_big_quiet_step ((first | (fail))))
          refine wpQuiet_nil ?_
          intro wy hby
          have hbn := hbx.trans (hby.mono hbx.size)
          go_wp2
          go_roundg (gk - 1)
          case measure => omega
          case rel => exact ⟨k + 1, some c, by omega, by go_num, rfl, rfl, hbn, hide (pb_take HC.out HV.out HT.out.1 HT.out.2)⟩
        · rw [tb_no ht]
          have HT := hide ht
          clear ht
          go_wp2
          go_roundg (gk - 1)
          case measure => omega
          case rel => exact ⟨k + 1, acc, by omega, by go_num, rfl, rfl, hbx, hide (pb_pass HC.out HV.out HT.out)⟩
    · go_wp2
      go_ret
      exact ⟨ret_i64 (by rw [pb_end (by omega) HV.out]), hbe⟩
end Go.Proofs.Ytkldfjlgphapeaa
