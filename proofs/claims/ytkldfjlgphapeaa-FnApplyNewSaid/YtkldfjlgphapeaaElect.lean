/- The elections of the program and of the reference, walked: both return the speaker and the backup of the plain law. Conditions: valid candidates, at most 1048576. -/
import Derived.Test.YtkldfjlgphapeaaBest
namespace Go.Proofs.Ytkldfjlgphapeaa
open Go.RowKit

/-- The number kI is the index of the best one so far, or -1. -/
def IsIx (cs : List Cand) (acc : Option Cand) (kI : Int) : Prop := (acc = none ∧ kI = -1) ∨ ∃ (k : Nat) (a : Cand), kI = k ∧ cs[k]? = some a ∧ acc = some a

set_option maxHeartbeats 800000 in
theorem l13Best_any (v : Value) (cs : List Cand) (claim ex : Int) (w : World) (hv : SlR cc 3 w w.heap.size v cs) (hn : cs.length ≤ 1048576) (hV : Valid cs) :
    Calls Try.prog 38 #[v, .int .i64 claim, .int .i64 ex] w fun e w' => ∃ kI, e = .returned (.int .i64 kI) ∧ IsIx cs (pb (Q claim ex) none cs) kI ∧ Below w.heap.size w w' := by
  obtain ⟨A, cap, rfl, hc, hr⟩ := hv
  have HVV := hide hV
  clear hV
  go_enter Try.func38, Try.ntmps38
  go_wp2
  go_loopg [7, 8] (cs.length) (fun gg kv i wr => ∃ (k : Nat) (acc : Option Cand) (kI : Int), k + gg = cs.length ∧ i = .int .i64 k ∧ kv = .int .i64 kI ∧ Hid (IsIx cs acc kI) ∧ Below w.heap.size w wr ∧
    Hid (pb (Q claim ex) none cs = pb (Q claim ex) acc (cs.drop k)))
  case atStart => exact ⟨0, none, -1, by omega, rfl, rfl, hide (.inl ⟨rfl, rfl⟩), Below.refl _ _, hide rfl⟩
  case round =>
    obtain ⟨k, acc, kI, hk, rfl, rfl, HI, hbe, HV⟩ := hrel
    by_cases hlt : k < cs.length
    · obtain ⟨b, off, rfl, hb, hcell⟩ := hr (by omega)
      obtain ⟨c, hck⟩ := get_some hlt
      have hval := valid_mem HVV.out (List.mem_of_getElem? hck)
      obtain ⟨hv1, hv2, hv3⟩ := hval
      obtain ⟨g1, g2, g3⟩ := candAt (hcell.keep (w' := wr) fun p hp => hbe.cell (by omega)) hck
      have HC := hide hck
      clear hck
      go_upto_region 6 with fail
      obtain ⟨wd, hwd⟩ : ∃ wd, wd = wr.alloc (Obj.cells #[Value.int IntKind.i64 c.node, Value.int IntKind.i64 c.prio, Value.int IntKind.i64 c.claim] 34) := ⟨_, rfl⟩
      have hbd : Below w.heap.size w wd := by rw [hwd]; exact hbe.alloc hbe.size _
      have f1 : wd.cell? ⟨wr.heap.size, 0, none⟩ = some (.int .i64 c.node) := by rw [hwd]; simp [go_sem]
      have f2 : wd.cell? ⟨wr.heap.size, 1, none⟩ = some (.int .i64 c.prio) := by rw [hwd]; simp [go_sem]
      have f3 : wd.cell? ⟨wr.heap.size, 2, none⟩ = some (.int .i64 c.claim) := by rw [hwd]; simp [go_sem]
      rw [← hwd]
      clear hwd g1 g2 g3
      go_cut [34] (fun s wx => s = .bool (tb (¬ Q claim ex c)) ∧ wx = wd)
      case first =>
        by_cases h1 : c.claim < claim
        · go_wp2_with fail
          go_meet
          exact ⟨by rw [tb_yes (fun h => by have := h.2.1; omega)], rfl⟩
        · by_cases h2 : c.node = ex
          · have hb2 : (c.node == ex) = true := by simp [h2]
            have H2 := hide h2
            clear h2
            go_wp2_with fail
            go_meet
            exact ⟨by rw [tb_yes (fun h => h.2.2 H2.out)], rfl⟩
          · have hb2 : (c.node == ex) = false := by simp [h2]
            have H2 := hide h2
            clear h2
            by_cases h3 : c.prio = 0
            · have hb3 : (c.prio == 0) = true := by simp [h3]
              have H3 := hide h3
              clear h3
              go_wp2_with fail
              go_meet
              exact ⟨by rw [tb_yes (fun h => by have := h.1; have := H3.out; omega)], rfl⟩
            · have hb3 : (c.prio == 0) = false := by simp [h3]
              have H3 := hide h3
              clear h3
              go_wp2_with fail
              go_meet
              exact ⟨by rw [tb_no (fun h => h ⟨by have := H3.out; omega, by omega, H2.out⟩)], rfl⟩
      case rest =>
        obtain ⟨rfl, hwd⟩ := hcut
        subst hwd
        by_cases hq : Q claim ex c
        · rw [tb_no (fun h => h hq)]
          have HQ := hide hq
          clear hq
          go_upto_region 7 with fail
          have e2 := fun x => wext_cell wc x f2
          go_cut [46] (fun s wx => s = .bool (tb (better acc c)) ∧ Below wc.heap.size wc wx)
          case first =>
            rcases HI.out with ⟨hacc, rfl⟩ | ⟨j, a, rfl, hja, hacc⟩
            · have HA := hide hacc
              clear hacc
              refine region_q (by kernel_rfl) (by kernel_rfl) ?_
              repeat (go_big_quiet_step ((first | (fail))))
              refine wpQuiet_nil ?_
              intro wx hbx
              go_wp2_with fail
              go_meet
              exact ⟨by rw [tb_yes (p := better acc c) (fun a ha => by rw [HA.out] at ha; cases ha)], hbx⟩
            · have HA := hide hacc
              clear hacc
              have hjl := get_lt hja
              have q2 := (candAt (hcell.keep (w' := wc) fun p hp => hbd.cell (by omega)) hja).2.1
              have HJ := hide hja
              clear hja
              have x2 := fun x => wext_cell wc x q2
              have hj0 : ¬ ((j : Int) < 0) := by omega
              have hj1 : decide ((j : Int) < 0) = false := by simp
              have hj2 : (0 : Int) ≤ (j : Int) := by omega
              have hj3 : (j : Int) < (cs.length : Int) := by omega
              by_cases h4 : a.prio ≤ c.prio
              · refine region_q (by kernel_rfl) (by kernel_rfl) ?_
                repeat (go_big_quiet_step ((first | (fail))))
                refine wpQuiet_nil ?_
                intro wx hbx
                go_wp2_with fail
                go_meet
                exact ⟨by rw [tb_yes (p := better acc c) (fun a' ha => by rw [HA.out] at ha; cases ha; exact h4)], hbx⟩
              · refine region_q (by kernel_rfl) (by kernel_rfl) ?_
                repeat (go_big_quiet_step ((first | (fail))))
                refine wpQuiet_nil ?_
                intro wx hbx
                go_wp2_with fail
                go_meet
                exact ⟨by rw [tb_no (fun h => by have := h a HA.out; omega)], hbx⟩
          case rest =>
            obtain ⟨rfl, hb2⟩ := hcut
            have hbn := hbd.trans (hb2.mono hbd.size)
            by_cases ht : better acc c
            · rw [tb_yes ht]
              have HT := hide ht
              clear ht
              go_wp2
              go_roundg (gk - 1)
              case measure => omega
              case rel => exact ⟨k + 1, some c, k, by omega, by go_num, rfl, hide (.inr ⟨k, c, rfl, HC.out, rfl⟩), hbn, hide (pb_take HC.out HV.out HQ.out HT.out)⟩
            · rw [tb_no ht]
              have HT := hide ht
              clear ht
              go_wp2
              go_roundg (gk - 1)
              case measure => omega
              case rel => exact ⟨k + 1, acc, kI, by omega, by go_num, rfl, HI, hbn, hide (pb_pass HC.out HV.out fun h => HT.out h.2)⟩
        · rw [tb_yes hq]
          have HQ := hide hq
          clear hq
          go_wp2
          go_roundg (gk - 1)
          case measure => omega
          case rel => exact ⟨k + 1, acc, kI, by omega, by go_num, rfl, HI, hbd, hide (pb_pass HC.out HV.out fun h => HQ.out h.1)⟩
    · go_wp2
      go_ret
      exact ⟨kI, rfl, by rw [pb_end (by omega) HV.out]; exact HI.out, hbe⟩

theorem l13Node_any (v : Value) (cs : List Cand) (acc : Option Cand) (kI : Int) (w : World) (hv : SlR cc 3 w w.heap.size v cs) (hn : cs.length ≤ 1048576) (hI : IsIx cs acc kI) :
    Calls Try.prog 37 #[v, .int .i64 kI] w fun e w' => e = .returned (.int .i64 (nodeO acc)) ∧ w' = w := by
  obtain ⟨A, cap, rfl, hc, hr⟩ := hv
  rcases hI with ⟨rfl, rfl⟩ | ⟨j, a, rfl, hja, rfl⟩
  · go_enter Try.func37, Try.ntmps37
    go_wp2
    go_ret
    exact ⟨rfl, rfl⟩
  · have hjl := get_lt hja
    obtain ⟨b, off, rfl, hb, hcell⟩ := hr (by omega)
    obtain ⟨q1, q2, q3⟩ := candAt hcell hja
    clear hja
    go_enter Try.func37, Try.ntmps37
    go_wp2
    go_ret
    exact ⟨rfl, rfl⟩

/-- One round of the election's loop over claims. -/
theorem elGo_step {cs : List Cand} {ex s cl : Int} {m : Nat} (hm : cl + 1 = m) (hcl : 0 ≤ cl) (hs : s < 0) : elGo cs ex m s = elGo cs ex (m - 1) (nodeO (pb (Q cl ex) none cs)) := by
  obtain ⟨n, rfl⟩ : ∃ n, m = n + 1 := ⟨m - 1, by omega⟩
  have : cl = (n : Int) := by omega
  subst this
  simp only [elGo, Nat.add_sub_cancel]
  rw [if_pos hs]
theorem elGo_stop {cs : List Cand} {ex s cl : Int} {m : Nat} (hm : cl + 1 = m) (h : ¬ (0 ≤ cl ∧ s < 0)) : elGo cs ex m s = s := by
  rcases Nat.eq_zero_or_pos m with h0 | h0
  · subst h0; rfl
  · obtain ⟨n, rfl⟩ : ∃ n, m = n + 1 := ⟨m - 1, by omega⟩
    simp only [elGo]
    rw [if_neg (fun hs => h ⟨by omega, hs⟩)]

set_option maxHeartbeats 800000 in
theorem l13Elect_any (v : Value) (cs : List Cand) (w : World) (hv : SlR cc 3 w w.heap.size v cs) (hn : cs.length ≤ 1048576) (hV : Valid cs) :
    Calls Try.prog 32 #[v] w fun e w' => e = .returned (.tuple #[.int .i64 (spk cs), .int .i64 (bak cs)]) ∧ Below w.heap.size w w' := by
  have HVV := hide hV
  clear hV
  go_enter Try.func32, Try.ntmps32
  go_wp2
  go_loopg [4, 5] (3) (fun gg sv cv wr => ∃ (s cl : Int), gg ≤ 3 ∧ Hid (cl + 1 = gg) ∧ -1 ≤ cl ∧ cl ≤ 2 ∧ cv = .int .i64 cl ∧ sv = .int .i64 s ∧ Below w.heap.size w wr ∧ Hid (elGo cs (-1) gg s = spk cs))
  case atStart => exact ⟨-1, 2, by omega, hide (by omega), by omega, by omega, rfl, rfl, Below.refl _ _, hide rfl⟩
  case round =>
    obtain ⟨s, cl, hg3, HG, hc1, hc2, rfl, rfl, hbe, HE⟩ := hrel
    go_upto_region 3 with fail
    go_cut [13] (fun x wx => x = .bool (tb (0 ≤ cl ∧ s < 0)) ∧ wx = wr)
    case first =>
      by_cases h1 : 0 ≤ cl
      · by_cases h2 : s < 0
        · go_wp2_with fail
          go_meet
          exact ⟨by rw [tb_yes ⟨h1, h2⟩], rfl⟩
        · go_wp2_with fail
          go_meet
          exact ⟨by rw [tb_no (fun h => by have := h.2; omega)], rfl⟩
      · go_wp2_with fail
        go_meet
        exact ⟨by rw [tb_no (fun h => by have := h.1; omega)], rfl⟩
    case rest =>
      obtain ⟨rfl, hw⟩ := hcut
      subst hw
      by_cases ht : 0 ≤ cl ∧ s < 0
      · rw [tb_yes ht]
        obtain ⟨t1, t2⟩ := ht
        have hvc := (hv.below hbe).more hbe.size
        go_wp2_with fail
        refine (l13Best_any v cs cl (-1) _ hvc hn HVV.out).mono ?_
        rintro e w1 ⟨kI, rfl, HI, hb1⟩
        have hbn := hbe.trans (hb1.mono hbe.size)
        go_wp2_with fail
        refine (l13Node_any v cs _ kI _ (hvc.up hb1) hn HI).mono ?_
        rintro e w2 ⟨rfl, rfl⟩
        go_wp2
        go_roundg (gk - 1)
        case measure => have := HG.out; omega
        case rel => exact ⟨_, cl - 1, by omega, hide (by have := HG.out; omega), by omega, by omega, rfl, rfl, hbn, hide (by rw [← HE.out]; exact (elGo_step HG.out t1 t2).symm)⟩
      · rw [tb_no ht]
        have hs : s = spk cs := (elGo_stop HG.out ht).symm.trans HE.out
        clear HE HG hg3 hc1 hc2 ht
        subst hs
        go_wp2
        obtain ⟨wo, hwo⟩ : ∃ wo : World, wo = wc := ⟨_, rfl⟩
        subst hwo
        obtain ⟨ex, hex⟩ : ∃ ex, ex = spk cs := ⟨_, rfl⟩
        rw [← hex]
        have HX := hide hex
        clear hex
        go_loopg [6, 7] (2) (fun gg sv cv wr => ∃ (s cl : Int), gg ≤ 2 ∧ Hid (cl + 1 = gg) ∧ -1 ≤ cl ∧ cl ≤ 1 ∧ cv = .int .i64 cl ∧ sv = .int .i64 s ∧ Below w.heap.size w wr ∧ Hid (elGo cs ex gg s = bak cs))
        case atStart => exact ⟨-1, 1, by omega, hide (by omega), by omega, by omega, rfl, rfl, hbe, hide (by rw [HX.out]; rfl)⟩
        case round =>
          clear hbe
          obtain ⟨s, cl, hg3, HG, hc1, hc2, rfl, rfl, hbe, HE⟩ := hrel
          go_upto_region 8 with fail
          go_cut [26] (fun x wx => x = .bool (tb (0 ≤ cl ∧ s < 0)) ∧ wx = wr)
          case first =>
            by_cases h1 : 0 ≤ cl
            · by_cases h2 : s < 0
              · go_wp2_with fail
                go_meet
                exact ⟨by rw [tb_yes ⟨h1, h2⟩], rfl⟩
              · go_wp2_with fail
                go_meet
                exact ⟨by rw [tb_no (fun h => by have := h.2; omega)], rfl⟩
            · go_wp2_with fail
              go_meet
              exact ⟨by rw [tb_no (fun h => by have := h.1; omega)], rfl⟩
          case rest =>
            obtain ⟨rfl, hw⟩ := hcut
            subst hw
            by_cases ht : 0 ≤ cl ∧ s < 0
            · rw [tb_yes ht]
              obtain ⟨t1, t2⟩ := ht
              have hvc := (hv.below hbe).more hbe.size
              go_wp2_with fail
              refine (l13Best_any v cs cl ex _ hvc hn HVV.out).mono ?_
              rintro e w1 ⟨kI, rfl, HI, hb1⟩
              have hbn := hbe.trans (hb1.mono hbe.size)
              go_wp2_with fail
              refine (l13Node_any v cs _ kI _ (hvc.up hb1) hn HI).mono ?_
              rintro e w2 ⟨rfl, rfl⟩
              go_wp2
              go_roundg (gk - 1)
              case measure => have := HG.out; omega
              case rel => exact ⟨_, cl - 1, by omega, hide (by have := HG.out; omega), by omega, by omega, rfl, rfl, hbn, hide (by rw [← HE.out]; exact (elGo_step HG.out t1 t2).symm)⟩
            · rw [tb_no ht]
              have hs : s = bak cs := (elGo_stop HG.out ht).symm.trans HE.out
              clear HE HG hg3 hc1 hc2 ht
              have hx := HX.out
              clear HX
              subst hx
              subst hs
              go_wp2
              go_ret2
              exact ⟨rfl, hbe⟩
end Go.Proofs.Ytkldfjlgphapeaa
