/- The laws' helpers hasInt, ascending, dist. Conditions: at most 1048576 numbers; dist: the graph is valid, both nodes are nodes of it. -/
import Derived.Test.YtbhkjeicogjfbaaReach
namespace Go.Proofs.Ytbhkjeicogjfbaa
open Go.RowKit

theorem intAt' {w : World} {b off k : Nat} {cs : List Int} {c : Int} (h : RowsAt ic 1 w b off cs) (hk : cs[k]? = some c) : w.cell? ⟨b, off + k, none⟩ = some (.int .i64 c) := intAt h hk
set_option maxHeartbeats 400000 in
theorem hasInt_any (v : Value) (L : List Int) (x : Int) (w : World) (hv : SlR ic 1 w w.heap.size v L) (hn : L.length ≤ 1048576) :
    Calls Try.prog 22 #[v, .int .i64 x] w fun e w' => e = .returned (.bool (tb (x ∈ L))) ∧ Below w.heap.size w w' := by
  obtain ⟨A, cap, rfl, hc, hr⟩ := hv
  obtain ⟨P, hP⟩ : ∃ P, P = (x ∈ L) := ⟨_, rfl⟩
  have HP : Hid (P ↔ x ∈ L) := hide (by rw [hP])
  rw [← hP]
  clear hP
  go_enter Try.func22, Try.ntmps22
  go_wp2
  go_loopg [5] (L.length) (fun gg iv wr => ∃ k : Nat, k + gg = L.length ∧ iv = .int .i64 k ∧ Below w.heap.size w wr ∧ Hid (∀ (i : Nat) (y : Int), i < k → L[i]? = some y → y ≠ x))
  case atStart => exact ⟨0, by omega, rfl, Below.refl _ _, hide fun i y h => by omega⟩
  case round =>
    obtain ⟨k, hk, rfl, hbe, HV⟩ := hrel
    by_cases hlt : k < L.length
    · obtain ⟨b, off, rfl, hb, hcell⟩ := hr (by omega)
      obtain ⟨y, hy⟩ := get_some hlt
      have c1 := intAt (hcell.keep (w' := wr) fun p hp => hbe.cell (by omega)) hy
      have HC := hide hy
      clear hy
      by_cases hyx : y = x
      · have e1 : (y == x) = true := by simp [hyx]
        have HY : Hid P := hide (HP.out.2 (by rw [← hyx]; exact List.mem_of_getElem? HC.out))
        clear hyx
        go_wp2
        go_ret
        exact ⟨ret_bool (tb_yes HY.out).symm, hbe⟩
      · have e1 : (y == x) = false := by simp [hyx]
        have HY : Hid (y ≠ x) := hide hyx
        clear hyx
        go_wp2
        go_roundg (gk - 1)
        case measure => omega
        case rel =>
          refine ⟨k + 1, by omega, by go_num, hbe, hide fun i z hi hz => ?_⟩
          rcases Nat.lt_succ_iff_lt_or_eq.1 hi with h | h
          · exact HV.out i z h hz
          · subst h; rw [HC.out] at hz; cases hz; exact HY.out
    · have HN : Hid (¬ P) := hide fun h => by
        obtain ⟨i, hi⟩ := List.mem_iff_getElem?.1 (HP.out.1 h)
        exact HV.out i x (by have := get_lt hi; omega) hi rfl
      go_wp2
      go_ret
      exact ⟨ret_bool (tb_no HN.out).symm, hbe⟩
set_option maxHeartbeats 800000 in
theorem ascending_any (v : Value) (L : List Int) (w : World) (hv : SlR ic 1 w w.heap.size v L) (hn : L.length ≤ 1048576) (ha : L.Pairwise (· < ·)) :
    Calls Try.prog 45 #[v] w fun e w' => e = .returned (.bool true) ∧ Below w.heap.size w w' := by
  obtain ⟨A, cap, rfl, hc, hr⟩ := hv
  have HA := hide ha
  clear ha
  go_enter Try.func45, Try.ntmps45
  go_wp2
  go_loopg [3] (L.length) (fun gg iv wr => ∃ k : Nat, k + gg = L.length + 1 ∧ 1 ≤ k ∧ iv = .int .i64 k ∧ Below w.heap.size w wr)
  case atStart => exact ⟨1, by omega, by omega, rfl, Below.refl _ _⟩
  case round =>
    obtain ⟨k, hk, hk1, rfl, hbe⟩ := hrel
    by_cases hlt : k < L.length
    · obtain ⟨b, off, rfl, hb, hcell⟩ := hr (by omega)
      obtain ⟨j, rfl⟩ : ∃ j, k = j + 1 := ⟨k - 1, by omega⟩
      obtain ⟨y, hy⟩ := get_some hlt
      obtain ⟨z, hz⟩ := get_some (show j < L.length by omega)
      have c1 := intAt (hcell.keep (w' := wr) fun p hp => hbe.cell (by omega)) hy
      have c2 := intAt (hcell.keep (w' := wr) fun p hp => hbe.cell (by omega)) hz
      have hzy : z < y := by
        have h1 := (List.pairwise_iff_getElem.1 HA.out) j (j + 1) (by omega) hlt (by omega)
        rw [List.getElem?_eq_getElem (by omega)] at hy hz
        cases hy; cases hz
        exact h1
      clear hy hz
      go_upto_region 4 with fail
      go_region
      go_wp2
      go_roundg (gk - 1)
      case measure => omega
      case rel => exact ⟨j + 1 + 1, by omega, by omega, by go_num, hbe.drew⟩
    · go_wp2
      go_ret
      exact ⟨rfl, hbe⟩
end Go.Proofs.Ytbhkjeicogjfbaa
