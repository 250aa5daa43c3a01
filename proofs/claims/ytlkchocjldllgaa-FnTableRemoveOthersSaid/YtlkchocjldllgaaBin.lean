/- slices.BinarySearchFunc on routes: the place of a route and whether one of its prefix and bits is there. Conditions: the routes stand in order; at most 1048576. -/
import Derived.Test.YtlkchocjldllgaaTabW
import Derived.Test.YtlkchocjldllgaaTabP
namespace Go.Proofs.Ytlkchocjldllgaa
open Go.RowKit

/-- A route of r's prefix and bits stands in l. -/
def Kn (l : List Rt) (r : Rt) : Prop := ∃ q, l[posR l r]? = some q ∧ ¬ Rl r q
theorem pw_l {l : List Rt} (hp : l.Pairwise Rl) {i j : Nat} (hij : i ≤ j) {x y r : Rt} (hx : l[i]? = some x) (hy : l[j]? = some y) (h : Rl y r) : Rl x r := by
  rcases Nat.lt_or_eq_of_le hij with h1 | h1
  · have h2 := get_lt hx
    have h3 := get_lt hy
    rw [List.getElem?_eq_getElem h2] at hx
    rw [List.getElem?_eq_getElem h3] at hy
    cases hx; cases hy
    exact ((List.pairwise_iff_getElem.1 hp) i j h2 h3 h1).trans h
  · subst h1; rw [hx] at hy; cases hy; exact h
set_option maxRecDepth 100000 in
set_option maxHeartbeats 1600000 in
theorem bin_any (v : Value) (l : List Rt) (r : Rt) (w : World) (hv : SlR rc 3 w w.heap.size v l) (hn : l.length ≤ 1048576) (hp : l.Pairwise Rl) :
    Calls Try.prog 73 #[v, .agg #[.int .i64 r.pre, .int .i64 r.bits, .int .i64 r.hop], .func (.func 56) #[] #[]] w
      fun e w' => e = .returned (.tuple #[.int .i64 (posR l r), .bool (tb (Kn l r))]) ∧ Below w.heap.size w w' := by
  obtain ⟨A, cap, rfl, hc, hr⟩ := hv
  have hb1 := below1 w (.cells #[.int .i64 r.pre, .int .i64 r.bits, .int .i64 r.hop] 40)
  have HB := hide (Blk.new w 40 #[.int .i64 r.pre, .int .i64 r.bits, .int .i64 r.hop])
  have HP := hide hp
  clear hp
  go_enter Try.func73, Try.ntmps73
  go_wp2
  obtain ⟨wb, hwb⟩ : ∃ wb, wb = w.alloc (.cells #[.int .i64 r.pre, .int .i64 r.bits, .int .i64 r.hop] 40) := ⟨_, rfl⟩
  rw [← hwb] at hb1 HB
  rw [← hwb]
  clear hwb
  go_loopg [9, 10] (l.length) (fun gg iv jv wr => ∃ lo hi : Nat, iv = .int .i64 lo ∧ jv = .int .i64 hi ∧ lo ≤ hi ∧ hi ≤ l.length ∧ hi - lo ≤ gg ∧ Below wb.heap.size wb wr ∧
    Hid (∀ (t : Nat) q, t < lo → l[t]? = some q → Rl q r) ∧ Hid (∀ (t : Nat) q, hi ≤ t → l[t]? = some q → ¬ Rl q r))
  case atStart => exact ⟨0, l.length, rfl, rfl, by omega, by omega, by omega, Below.refl _ _, hide fun t q h => by omega, hide fun t q h hq => by have := get_lt hq; omega⟩
  case round =>
    obtain ⟨lo, hi, rfl, rfl, h1, h2, h3, hbe, HL, HH⟩ := hrel
    have t0 := (HB.out.up hbe).cell 0
    have t1 := (HB.out.up hbe).cell 1
    have t2 := (HB.out.up hbe).cell 2
    have hwr := hb1.trans (hbe.mono hb1.size)
    by_cases hlt : lo < hi
    · obtain ⟨b, off, rfl, hb, hcell⟩ := hr (by omega)
      obtain ⟨x, hck⟩ := get_some (l := l) (i := (lo + hi) / 2) (by omega)
      obtain ⟨g1, g2, g3⟩ := routeAt (hcell.keep (w' := wr) fun p hp => hwr.cell (by omega)) hck
      have HC := hide hck
      clear hck
      go_upto_region 5 with fail
      have e0 := fun y => wext_cell wr y t0
      have e1 := fun y => wext_cell wr y t1
      have e2 := fun y => wext_cell wr y t2
      have e4 := fun y => wext_cell wr y g1
      have e5 := fun y => wext_cell wr y g2
      have e6 := fun y => wext_cell wr y g3
      have hcm := fun W => compareRoutes_any x r W
      have hneg := cmpR_neg x r
      obtain ⟨c, hcc⟩ : ∃ c, c = cmpR x r := ⟨_, rfl⟩
      rw [← hcc] at hcm hneg
      clear hcc
      have HCM := hide hcm
      clear hcm
      by_cases h5 : c < 0
      · have H5 := hide (hneg.1 h5)
        clear hneg
        refine region_q (by kernel_rfl) (by kernel_rfl) ?_
        repeat (go_big_quiet_step ((first | (go_at_call 56; exact q_call (HCM.out _)))))
        refine wpQuiet_nil ?_
        intro wx hbx
        clear e0 e1 e2 e4 e5 e6 t0 t1 t2 g1 g2 g3
        go_wp2
        go_roundg (hi - ((lo + hi) / 2 + 1))
        case measure => omega
        case rel =>
          refine ⟨(lo + hi) / 2 + 1, hi, by go_num, rfl, by omega, h2, by omega, hbe.trans (hbx.mono hbe.size), hide fun t q ht hq => pw_l HP.out (by omega) hq HC.out H5.out, HH⟩
      · have H5 := hide (fun h => h5 (hneg.2 h))
        clear hneg
        refine region_q (by kernel_rfl) (by kernel_rfl) ?_
        repeat (go_big_quiet_step ((first | (go_at_call 56; exact q_call (HCM.out _)))))
        refine wpQuiet_nil ?_
        intro wx hbx
        clear e0 e1 e2 e4 e5 e6 t0 t1 t2 g1 g2 g3
        go_wp2
        go_roundg ((lo + hi) / 2 - lo)
        case measure => omega
        case rel =>
          refine ⟨lo, (lo + hi) / 2, rfl, by go_num, by omega, by omega, by omega, hbe.trans (hbx.mono hbe.size), HL, hide fun t q ht hq h => H5.out (pw_l HP.out ht HC.out hq h)⟩
    · obtain rfl : hi = lo := by omega
      have hpos : posR l r = hi := posR_eq h2 HL.out fun q hq => HH.out hi q (Nat.le_refl _) hq
      by_cases hin : hi < l.length
      · obtain ⟨b, off, rfl, hb, hcell⟩ := hr (by omega)
        obtain ⟨x, hck⟩ := get_some (l := l) (i := hi) hin
        obtain ⟨g1, g2, g3⟩ := routeAt (hcell.keep (w' := wr) fun p hp => hwr.cell (by omega)) hck
        have HKN : Hid (tb (Kn l r) = (cmpR x r == 0)) := hide (by
          symm
          refine beq_tb ?_
          rw [cmpR_zero]
          unfold Kn
          rw [hpos, hck]
          have hnl := HH.out hi x (Nat.le_refl _) hck
          constructor
          · rintro ⟨q, hq, hnr⟩
            cases hq
            exact Rl.ky hnl hnr
          · intro hk
            exact ⟨x, rfl, Ky.nl (Ky.symm hk)⟩)
        have HPOS := hide hpos
        have hcm := fun W => compareRoutes_any x r W
        obtain ⟨c, hcc⟩ : ∃ c, c = cmpR x r := ⟨_, rfl⟩
        rw [← hcc] at hcm HKN
        clear hcc hpos
        have HCM := hide hcm
        clear hcm hck
        go_upto_region 8 with fail
        have e0 := fun y => wext_cell wr y t0
        have e1 := fun y => wext_cell wr y t1
        have e2 := fun y => wext_cell wr y t2
        have e4 := fun y => wext_cell wr y g1
        have e5 := fun y => wext_cell wr y g2
        have e6 := fun y => wext_cell wr y g3
        refine region_q (by kernel_rfl) (by kernel_rfl) ?_
        repeat (go_big_quiet_step ((first | (go_at_call 56; exact q_call (HCM.out _)))))
        refine wpQuiet_nil ?_
        intro wx hbx
        clear e0 e1 e2 e4 e5 e6 t0 t1 t2 g1 g2 g3
        go_wp2_with fail
        go_ret2
        exact ⟨by rw [HPOS.out, HKN.out]; rfl, hwr.trans (hbx.mono hwr.size)⟩
      · have HKN : Hid (tb (Kn l r) = false) := hide (tb_no (by
          rintro ⟨q, hq, _⟩
          have := get_lt hq
          rw [hpos] at this
          omega))
        have HPOS := hide hpos
        clear hpos
        go_upto_region 8 with fail
        refine region_q (by kernel_rfl) (by kernel_rfl) ?_
        repeat (go_big_quiet_step ((first | (fail))))
        refine wpQuiet_nil ?_
        intro wx hbx
        clear t0 t1 t2
        go_wp2_with fail
        go_ret2
        exact ⟨by rw [HPOS.out, HKN.out]; rfl, hwr.trans (hbx.mono hwr.size)⟩
end Go.Proofs.Ytlkchocjldllgaa
