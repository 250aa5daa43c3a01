/- Does a route match an address: the laws' own function. Conditions: a valid route, an address from 0 to 255. -/
import Derived.Test.YtlkchocjldllgaaTabP
namespace Go.Proofs.Ytlkchocjldllgaa
open Go.RowKit

theorem mt_range {r : Rt} {a : Int} (hm : r.pre % low r.bits = 0) : Mt r a ↔ r.pre ≤ a ∧ a < r.pre + low r.bits := by
  unfold Mt
  have hl := low_pos r.bits
  have h1 := Int.mul_ediv_add_emod r.pre (low r.bits)
  have h2 := Int.mul_ediv_add_emod a (low r.bits)
  have h3 := Int.emod_nonneg a (show low r.bits ≠ 0 by omega)
  have h4 := Int.emod_lt_of_pos a (show 0 < low r.bits by omega)
  rw [hm] at h1
  constructor
  · intro h
    rw [h] at h2
    omega
  · rintro ⟨h5, h6⟩
    have h7 : a / low r.bits < r.pre / low r.bits + 1 := by
      rw [Int.ediv_lt_iff_lt_mul (by omega)]
      rw [Int.add_mul, Int.mul_comm]
      omega
    have h8 : r.pre / low r.bits ≤ a / low r.bits := Int.ediv_le_ediv (by omega) h5
    omega
set_option maxHeartbeats 400000 in
theorem matches_any (r : Rt) (a : Int) (w : World) (hb : 0 ≤ r.bits ∧ r.bits ≤ 8) (hp : 0 ≤ r.pre ∧ r.pre ≤ 255) (hm : r.pre % low r.bits = 0) (ha : 0 ≤ a ∧ a ≤ 255) :
    Calls Try.prog 31 #[.agg #[.int .i64 r.pre, .int .i64 r.bits, .int .i64 r.hop], .int .i64 a] w fun e w' => e = .returned (.bool (tb (Mt r a))) ∧ Below w.heap.size w w' := by
  rw [tb_iff (mt_range hm)]
  obtain ⟨p, b, h⟩ := r
  simp only at hb hp hm ⊢
  obtain ⟨h0, h8⟩ := hb
  obtain ⟨hp0, hp1⟩ := hp
  obtain ⟨ha0, ha1⟩ := ha
  obtain ⟨n, rfl⟩ := Int.eq_ofNat_of_zero_le h0
  have step : ∀ k : Nat, k < 8 → low ((k : Int) + 1) = low k / 2 := by
    intro k hk
    match k, hk with
    | 0, _ => rfl
    | 1, _ => rfl
    | 2, _ => rfl
    | 3, _ => rfl
    | 4, _ => rfl
    | 5, _ => rfl
    | 6, _ => rfl
    | 7, _ => rfl
  have HS := hide step
  clear step hm
  obtain ⟨L, hL⟩ : ∃ L, L = low (n : Int) := ⟨_, rfl⟩
  rw [← hL]
  have HLL := hide hL
  clear hL
  have hb0 := below1 w (.cells #[.int .i64 p, .int .i64 n, .int .i64 h] 40)
  have c0 := new3_0 w (.int .i64 p) (.int .i64 n) (.int .i64 h) 40
  have c1 := new3_1 w (.int .i64 p) (.int .i64 n) (.int .i64 h) 40
  go_enter Try.func31, Try.ntmps31
  go_wp2_with fail
  obtain ⟨wb, hwb⟩ : ∃ wb, wb = w.alloc (Obj.cells #[.int .i64 p, .int .i64 n, .int .i64 h] 40) := ⟨_, rfl⟩
  rw [← hwb] at hb0 c0 c1 ⊢
  clear hwb
  go_loopg [5, 6] (n) (fun gg lv iv wr => ∃ (k : Nat) (l : Int), k + gg = n ∧ iv = .int .i64 k ∧ lv = .int .i64 l ∧ 1 ≤ l ∧ l ≤ 256 ∧ Hid (l = low k) ∧ wr = wb)
  case atStart => exact ⟨0, 256, by omega, rfl, rfl, by omega, by omega, hide rfl, rfl⟩
  case round =>
    obtain ⟨k, l, hk, rfl, rfl, hl1, hl2, HL, hw⟩ := hrel
    subst hw
    by_cases hlt : k < n
    · have hs := HS.out k (by omega)
      have hpp := low_pos ((k : Int) + 1)
      rw [hs, ← HL.out] at hpp
      have HS' := hide hs
      clear hs
      go_wp2
      go_roundg (gk - 1)
      case measure => omega
      case rel => exact ⟨k + 1, l / 2, by omega, by go_num, rfl, hpp.1, hpp.2, hide (by rw [HL.out, ← HS'.out]; rfl), rfl⟩
    · have hkn : k = n := by omega
      have hl : l = L := by rw [HL.out, HLL.out, hkn]
      clear HL HS HLL hkn
      subst hl
      by_cases h5 : p ≤ a
      · by_cases h6 : a < p + l
        · go_wp2
          go_ret
          exact ⟨ret_bool (tb_yes (by omega)).symm, hb0⟩
        · go_wp2
          go_ret
          exact ⟨ret_bool (tb_no (by omega)).symm, hb0⟩
      · go_wp2
        go_ret
        exact ⟨ret_bool (tb_no (by omega)).symm, hb0⟩
end Go.Proofs.Ytlkchocjldllgaa
