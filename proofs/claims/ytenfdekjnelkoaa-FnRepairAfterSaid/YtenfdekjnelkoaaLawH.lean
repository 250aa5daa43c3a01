/- The laws' helpers hasInt, ascending, dist. Conditions: at most 1048576 numbers; dist: the graph is valid, both nodes are nodes of it. -/
import Derived.Test.YtenfdekjnelkoaaReach
namespace Go.Proofs.Ytenfdekjnelkoaa
open Go.RowKit

theorem intAt' {w : World} {b off k : Nat} {cs : List Int} {c : Int} (h : RowsAt ic 1 w b off cs) (hk : cs[k]? = some c) : w.cell? ⟨b, off + k, none⟩ = some (.int .i64 c) := intAt h hk
set_option maxHeartbeats 400000 in
theorem hasInt_any (v : Value) (L : List Int) (x : Int) (w : World) (hv : SlR ic 1 w w.heap.size v L) (hn : L.length ≤ 1048576) :
    Calls Try.prog 21 #[v, .int .i64 x] w fun e w' => e = .returned (.bool (tb (x ∈ L))) ∧ Below w.heap.size w w' := by
  obtain ⟨A, cap, rfl, hc, hr⟩ := hv
  obtain ⟨P, hP⟩ : ∃ P, P = (x ∈ L) := ⟨_, rfl⟩
  have HP : Hid (P ↔ x ∈ L) := hide (by rw [hP])
  rw [← hP]
  clear hP
  go_enter Try.func21, Try.ntmps21
  go_wp2
  go_loopg [5] (L.length) (fun gg iv wr => ∃ k : Nat, k + gg = L.length ∧ iv = .int .i64 k ∧ Below w.heap.size w wr ∧ Hid (∀ (i : Nat) (y : Int), i < k → L[i]? = some y → y ≠ x))
  case atStart => exact ⟨0, by omega, rfl, Below.refl _ _, hide fun i y h => by omega⟩
  case round =>
    obtain ⟨k, hk, rfl, hbe, HV⟩ := hrel
    by_cases hlt : k < L.length
    · obtain ⟨b, off, rfl, hb, hcell⟩ := hr (by omega)
      obtain ⟨y, hy⟩ := get_some hlt
      have c1 := intAt (hcell.keep (w' := wr) fun p hp => hbe.cell (by omega)) hy
      have HC := hide hy
      clear hy
      by_cases hyx : y = x
      · have e1 : (y == x) = true := by simp [hyx]
        have HY : Hid P := hide (HP.out.2 (by rw [← hyx]; exact List.mem_of_getElem? HC.out))
        clear hyx
        go_wp2
        go_ret
        exact ⟨ret_bool (tb_yes HY.out).symm, hbe⟩
      · have e1 : (y == x) = false := by simp [hyx]
        have HY : Hid (y ≠ x) := hide hyx
        clear hyx
        go_wp2
        go_roundg (gk - 1)
        case measure => omega
        case rel =>
          refine ⟨k + 1, by omega, by go_num, hbe, hide fun i z hi hz => ?_⟩
          rcases Nat.lt_succ_iff_lt_or_eq.1 hi with h | h
          · exact HV.out i z h hz
          · subst h; rw [HC.out] at hz; cases hz; exact HY.out
    · have HN : Hid (¬ P) := hide fun h => by
        obtain ⟨i, hi⟩ := List.mem_iff_getElem?.1 (HP.out.1 h)
        exact HV.out i x (by have := get_lt hi; omega) hi rfl
      go_wp2
      go_ret
      exact ⟨ret_bool (tb_no HN.out).symm, hbe⟩
set_option maxHeartbeats 400000 in
theorem dist_any (v : Value) (g : Gr) (x y : Int) (w : World) (hv : GrR w w.heap.size v g) (hg : GV g) (hx : Nd g x) (hy : Nd g y) :
    Calls Try.prog 38 #[v, .int .i64 x, .int .i64 y] w fun e w' => e = .returned (.int .i64 (D g x y)) ∧ Below w.heap.size w w' := by
  obtain ⟨ny, rfl⟩ := Int.eq_ofNat_of_zero_le hy.1
  obtain ⟨A, cap, rfl, hc, hr⟩ := hv.form
  obtain ⟨wb, hwb⟩ : ∃ wb, wb = w.alloc (Obj.cells #[.int .i64 g.n, .slice A g.ls.length cap] 25) := ⟨_, rfl⟩
  have hbw : Below w.heap.size w wb := by rw [hwb]; exact below1 _ _
  have hcon := distancesX_any _ g x _ (hv.up hbw) (by have := hg.len; omega)
  obtain ⟨p, hp⟩ : ∃ p, p = D g x ny := ⟨_, rfl⟩
  have H1 : Hid ((distX g x)[ny]? = some p) := hide (by rw [hp, distX, okL_yes ⟨hg, hx⟩]; exact D_at hy.2)
  rw [← hp]
  have hl : (distX g x).length = g.n.toNat := by rw [distX, okL_yes ⟨hg, hx⟩, distL_len]
  have hyn := hy.2
  have hn1 := hg.n.1
  clear hp hr hv hg hx hy
  go_enter Try.func38, Try.ntmps38
  go_wp2_with fail
  rw [← hwb]
  clear hwb
  refine hcon.mono ?_
  rintro e w1 ⟨v1, rfl, hO, hb1⟩
  obtain ⟨o, cp, rfl, _⟩ := hO.form (by rw [hl]; omega)
  have x1 := own_int hO H1.out
  rw [hl]
  clear hO hcon
  go_wp2
  go_ret
  exact ⟨rfl, hbw.trans (hb1.mono hbw.size)⟩
end Go.Proofs.Ytenfdekjnelkoaa
