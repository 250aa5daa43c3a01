/- slices.Sort of at most 14 ints. Conditions: at most 12 numbers. -/
import Derived.Test.YtbhkjeicogjfbaaNb
import Derived.Test.YtbhkjeicogjfbaaAppI
import Derived.Test.YtbhkjeicogjfbaaPick
namespace Go.Proofs.Ytbhkjeicogjfbaa
open Go.RowKit

theorem isNaN_any (x : Int) (w : World) : Calls Try.prog 95 #[.int .i64 x] w fun e w' => e = .returned (.bool false) ∧ w' = w := by
  have hx : (x != x) = false := by simp
  go_enter Try.func95, Try.ntmps95
  go_wp2
  go_ret
  exact ⟨rfl, rfl⟩
theorem less_any (a b : Int) (w : World) : Calls Try.prog 130 #[.int .i64 a, .int .i64 b] w fun e w' => e = .returned (.bool (decide (a < b))) ∧ w' = w := by
  obtain ⟨c, hc⟩ : ∃ c, c = decide (a < b) := ⟨_, rfl⟩
  rw [← hc]
  have hc' : decide (a < b) = c := hc.symm
  clear hc
  go_enter Try.func130, Try.ntmps130
  go_wp2_with fail
  refine (isNaN_any a _).mono ?_
  rintro e w1 ⟨rfl, rfl⟩
  go_wp2
  go_ret
  exact ⟨rfl, rfl⟩
set_option maxRecDepth 100000 in
set_option maxHeartbeats 1600000 in
theorem insort1_any (v : Value) (base : Nat) (L : List Int) (w : World) (hO : Own ic 3 1 w base v L) (hL : L.length ≤ 14) :
    Calls Try.prog 124 #[v, .int .i64 0, .int .i64 (L.length : Nat)] w
      fun e w' => e = .returned (.tuple #[]) ∧ ∃ M, (M.Perm L ∧ M.Pairwise (· ≤ ·)) ∧ Own ic 3 1 w' base v M ∧ w.grownBy w' v.ownBlock := by
  have HS0 : Hid (Own ic 3 1 w base v L ∧ w.grownBy w v.ownBlock) := hide ⟨hO, only_refl w v.ownBlock⟩
  obtain ⟨A, cap, rfl, hc, _⟩ := hO.lit
  obtain ⟨N, hN⟩ : ∃ N, N = L.length := ⟨_, rfl⟩
  have HN := hide hN
  have hN8 : N ≤ 14 := by omega
  rw [← hN] at HS0 hc
  rw [← hN]
  clear hO hL hN
  go_enter Try.func124, Try.ntmps124
  go_wp2
  go_loopg [6] (N) (fun gg iv wr => ∃ (i : Nat) (M : List Int), i + gg = N + 1 ∧ 1 ≤ i ∧ iv = .int .i64 i ∧ Hid (Srt1 L i M) ∧ Hid (Own ic 3 1 wr base (.slice A N cap) M ∧ w.grownBy wr (Value.slice A N cap).ownBlock))
  case atStart => exact ⟨1, L, by omega, by omega, rfl, hide (srt1_start L), HS0⟩
  case round =>
    clear HS0
    obtain ⟨i, M, hi, hi1, rfl, HM, HS⟩ := hrel
    by_cases hlt : i < N
    · obtain ⟨gko, hgko⟩ : ∃ z, z = gk := ⟨_, rfl⟩
      subst hgko
      obtain ⟨wo, hwo⟩ : ∃ wo, wo = wr := ⟨_, rfl⟩
      subst hwo
      have HMI := hide (ins1_start HM.out (by have := HN.out; omega))
      clear HM
      go_wp2
      go_loopg [7] (i) (fun gg jv wr => ∃ (M : List Int), gg ≤ i ∧ jv = .int .i64 (gg : Nat) ∧ Hid (Ins1 L i gg M) ∧ Hid (Own ic 3 1 wr base (.slice A N cap) M ∧ w.grownBy wr (Value.slice A N cap).ownBlock))
      case atStart => exact ⟨M, Nat.le_refl _, rfl, HMI, HS⟩
      case round =>
        clear HMI HS
        obtain ⟨M, hji, rfl, HM, HS⟩ := hrel
        have HML : Hid (M.length = N) := hide (by rw [HM.out.len, HN.out])
        by_cases h0 : 0 < gk
        · obtain ⟨q, cp, hA, _, _⟩ := HS.out.1.form (by have := HML.out; omega)
          have hA2 : A = some ⟨q, 0, none⟩ := by injection hA
          subst hA2
          clear hA cp
          obtain ⟨j, rfl⟩ : ∃ j, gk = j + 1 := ⟨gk - 1, by omega⟩
          obtain ⟨z, x, hz, hx, hsw⟩ := ins1_at HM.out h0
          rw [Nat.add_sub_cancel] at hz hsw
          have c1 := own_int HS.out.1 hz
          have c2 := own_int HS.out.1 hx
          have e1 := fun y => wext_cell wr y c1
          have e2 := fun y => wext_cell wr y c2
          have HCM := hide (fun y => less_any x z (wext wr y))
          have HZ : Hid (M[j]? = some z ∧ M[j + 1]? = some x) := hide ⟨hz, hx⟩
          have HSW := hide hsw
          clear hz hx hsw
          go_upto_region 4 with fail
          by_cases hlt2 : x < z
          · have hcm : decide (x < z) = true := decide_eq_true hlt2
            refine region_q (by kernel_rfl) (by kernel_rfl) ?_
            repeat (go_big_quiet_step ((first | (go_at_call 130; with_reducible exact q_same (HCM.out _)))))
            refine wpQuiet_nil ?_
            intro wx hbx
            have HS1 : Hid (Own ic 3 1 wx base (.slice (some ⟨q, 0, none⟩) N cap) M ∧ w.grownBy wx (some q)) := hide ⟨HS.out.1.below hbx, only_below HS.out.2 hbx⟩
            have d1 := own_int HS1.out.1 HZ.out.1
            have d2 := own_int HS1.out.1 HZ.out.2
            have f1 := own_free HS1.out.1 j
            have f2 := own_free HS1.out.1 (j + 1)
            have HS2 := hide (own_put (own_put HS1.out.1 (get_lt HZ.out.2) z) (i := j) (by have := get_lt HZ.out.1; simpa using this) x)
            have HG2 : Hid (w.grownBy ((wx.setCell ⟨q, j + 1, none⟩ (.int .i64 z)).setCell ⟨q, j, none⟩ (.int .i64 x)) (some q)) := hide (only_setCell (only_setCell HS1.out.2 (p := ⟨q, j + 1, none⟩) (.inl rfl) _) (p := ⟨q, j, none⟩) (.inl rfl) _)
            have HM2 := hide (HSW.out hlt2)
            clear c1 c2 e1 e2 hcm hlt2 HS
            go_upto_region 6 with fail
            go_region
            all_goals
              go_wp2
              go_roundg j
              case measure => omega
              case rel => exact ⟨_, by omega, by go_num, HM2, hide ⟨HS2.out.below ((Below.refl _ _).drew), only_below HG2.out ((Below.refl _ _).drew)⟩⟩
          · have hcm : decide (x < z) = false := decide_eq_false hlt2
            have HST := hide (ins1_stop HM.out (fun z' x' _ h1 h2 => by
              rw [Nat.add_sub_cancel, HZ.out.1] at h1
              rw [HZ.out.2] at h2
              cases h1; cases h2; exact hlt2))
            clear hlt2
            refine region_q (by kernel_rfl) (by kernel_rfl) ?_
            repeat (go_big_quiet_step ((first | (go_at_call 130; with_reducible exact q_same (HCM.out _)))))
            refine wpQuiet_nil ?_
            intro wx hbx
            have HS1 : Hid (Own ic 3 1 wx base (.slice (some ⟨q, 0, none⟩) N cap) M ∧ w.grownBy wx (some q)) := hide ⟨HS.out.1.below hbx, only_below HS.out.2 hbx⟩
            clear c1 c2 e1 e2 HS
            go_wp2
            go_roundg (gko - 1)
            case measure => omega
            case rel => exact ⟨i + 1, _, by omega, by omega, by go_num, HST, HS1⟩
        · have h0' : gk = 0 := by omega
          have HST := hide (ins1_stop HM.out (fun z' x' h _ _ => by omega))
          subst h0'
          go_upto_region 4 with fail
          refine region_q (by kernel_rfl) (by kernel_rfl) ?_
          repeat (go_big_quiet_step ((first | (fail))))
          refine wpQuiet_nil ?_
          intro wx hbx
          have HS1 : Hid (Own ic 3 1 wx base (.slice A N cap) M ∧ w.grownBy wx (Value.slice A N cap).ownBlock) := hide ⟨HS.out.1.below hbx, only_below HS.out.2 hbx⟩
          clear HS
          go_wp2
          go_roundg (gko - 1)
          case measure => omega
          case rel => exact ⟨i + 1, _, by omega, by omega, by go_num, HST, HS1⟩
    · have HE := hide (srt1_end HM.out (by have := HN.out; omega))
      go_wp2
      go_end0
      exact ⟨rfl, _, HE.out, HS.out⟩
set_option maxRecDepth 100000 in
set_option maxHeartbeats 800000 in
theorem len64_any (n : Nat) (w : World) (hn : n ≤ 12) :
    Calls Try.prog 134 #[.int .u64 n] w fun e w' => ∃ r : Int, e = .returned (.int .i64 r) ∧ w' = w := by
  rcases (show n = 0 ∨ n = 1 ∨ n = 2 ∨ n = 3 ∨ n = 4 ∨ n = 5 ∨ n = 6 ∨ n = 7 ∨ n = 8 ∨ n = 9 ∨ n = 10 ∨ n = 11 ∨ n = 12 by omega) with rfl | rfl | rfl | rfl | rfl | rfl | rfl | rfl | rfl | rfl | rfl | rfl | rfl
  all_goals
    go_enter Try.func134, Try.ntmps134
    go_wp2
    go_ret
    exact ⟨_, rfl, rfl⟩
theorem len_any (n : Nat) (w : World) (hn : n ≤ 12) :
    Calls Try.prog 122 #[.int .u64 n] w fun e w' => ∃ r : Int, e = .returned (.int .i64 r) ∧ w' = w := by
  go_enter Try.func122, Try.ntmps122
  go_wp2_with fail
  refine (len64_any n _ hn).mono ?_
  rintro e w1 ⟨r, rfl, rfl⟩
  go_wp2
  go_ret
  exact ⟨_, rfl, rfl⟩
set_option maxRecDepth 100000 in
set_option maxHeartbeats 800000 in
theorem pdq_any (v : Value) (base : Nat) (L : List Int) (lim : Int) (w : World) (hO : Own ic 3 1 w base v L) (hL : L.length ≤ 12) :
    Calls Try.prog 121 #[v, .int .i64 0, .int .i64 (L.length : Nat), .int .i64 lim] w
      fun e w' => e = .returned (.tuple #[]) ∧ ∃ M, (M.Perm L ∧ M.Pairwise (· ≤ ·)) ∧ Own ic 3 1 w' base v M ∧ w.grownBy w' v.ownBlock := by
  have HC := hide (insort1_any v base L w hO (by omega))
  obtain ⟨A, cap, rfl, hc, _⟩ := hO.lit
  clear hO
  go_enter Try.func121, Try.ntmps121
  go_wp2
  go_loopg [1, 2, 3, 8, 9] (0) (fun gg av bv lv xv yv wr => gg = 0 ∧ av = .int .i64 0 ∧ bv = .int .i64 (L.length : Nat) ∧ lv = .int .i64 lim ∧ xv = .bool true ∧ yv = .bool true ∧ wr = w)
  case atStart => exact ⟨rfl, rfl, rfl, rfl, rfl, rfl, rfl⟩
  case round =>
    obtain ⟨hg0, rfl, rfl, rfl, rfl, rfl, hw⟩ := hrel
    subst hw
    go_wp2_with fail
    refine HC.out.mono ?_
    rintro e w1 ⟨rfl, h1⟩
    have H1 := hide h1
    clear h1
    go_wp2
    refine bodyPost_ret (results_none rfl _ _ _) rfl ?_
    exact ⟨rfl, H1.out⟩
set_option maxRecDepth 100000 in
set_option maxHeartbeats 800000 in
theorem sort1_any (v : Value) (base : Nat) (L : List Int) (w : World) (hO : Own ic 3 1 w base v L) (hL : L.length ≤ 12) :
    Calls Try.prog 118 #[v] w
      fun e w' => e = .returned (.tuple #[]) ∧ ∃ M, (M.Perm L ∧ M.Pairwise (· ≤ ·)) ∧ Own ic 3 1 w' base v M ∧ w.grownBy w' v.ownBlock := by
  have HC := hide (fun lim => pdq_any v base L lim w hO hL)
  obtain ⟨A, cap, rfl, hc, _⟩ := hO.lit
  clear hO
  go_enter Try.func118, Try.ntmps118
  go_wp2_with fail
  refine (len_any L.length _ hL).mono ?_
  rintro e w1 ⟨r, rfl, rfl⟩
  go_wp2_with fail
  refine (HC.out r).mono ?_
  rintro e w1 ⟨rfl, h1⟩
  have H1 := hide h1
  clear h1
  go_wp2
  go_end0
  exact ⟨rfl, H1.out⟩
end Go.Proofs.Ytbhkjeicogjfbaa
