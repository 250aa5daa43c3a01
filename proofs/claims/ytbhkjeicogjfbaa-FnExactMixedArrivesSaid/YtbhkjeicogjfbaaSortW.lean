/- The library's stable sort of at most 8 ints by distance, and the comparison. Conditions: at most 8 numbers, each with a distance. -/
import Derived.Test.YtbhkjeicogjfbaaSort
import Derived.Test.YtbhkjeicogjfbaaAppI
import Derived.Test.YtbhkjeicogjfbaaPick
namespace Go.Proofs.Ytbhkjeicogjfbaa
open Go.RowKit

/-- Compare's answer. -/
def cmpI (a b : Int) : Int := if a < b then -1 else if b < a then 1 else 0
theorem cmpI_neg (a b : Int) : cmpI a b < 0 ↔ a < b := by unfold cmpI; split <;> (try split) <;> omega
theorem compare_any (a b : Int) (w : World) : Calls Try.prog 62 #[.int .i64 a, .int .i64 b] w fun e w' => e = .returned (.int .i64 (cmpI a b)) ∧ w' = w := by
  have hnan : ∀ (x : Int) (w : World), Calls Try.prog 95 #[.int .i64 x] w fun e w' => e = .returned (.bool false) ∧ w' = w := by
    intro x w
    have hx : (x != x) = false := by simp
    go_enter Try.func95, Try.ntmps95
    go_wp2
    go_ret
    exact ⟨rfl, rfl⟩
  by_cases h1 : a < b
  · have hc : cmpI a b = -1 := if_pos h1
    rw [hc]
    clear hc
    go_enter Try.func62, Try.ntmps62
    go_wp2_with fail
    refine (hnan a _).mono ?_
    rintro e w1 ⟨rfl, rfl⟩
    go_wp2_with fail
    refine (hnan b _).mono ?_
    rintro e w1 ⟨rfl, rfl⟩
    go_wp2
    go_ret
    exact ⟨rfl, rfl⟩
  · by_cases h2 : b < a
    · have hc : cmpI a b = 1 := (if_neg h1).trans (if_pos h2)
      rw [hc]
      clear hc
      go_enter Try.func62, Try.ntmps62
      go_wp2_with fail
      refine (hnan a _).mono ?_
      rintro e w1 ⟨rfl, rfl⟩
      go_wp2_with fail
      refine (hnan b _).mono ?_
      rintro e w1 ⟨rfl, rfl⟩
      go_wp2
      go_ret
      exact ⟨rfl, rfl⟩
    · have hc : cmpI a b = 0 := (if_neg h1).trans (if_neg h2)
      rw [hc]
      clear hc
      go_enter Try.func62, Try.ntmps62
      go_wp2_with fail
      refine (hnan a _).mono ?_
      rintro e w1 ⟨rfl, rfl⟩
      go_wp2_with fail
      refine (hnan b _).mono ?_
      rintro e w1 ⟨rfl, rfl⟩
      go_wp2
      go_ret
      exact ⟨rfl, rfl⟩
/-- The box b0 holds the slice of distances d, which lies in block o. -/
structure Far (w : World) (b0 o : Nat) (d : List Int) : Prop where
  ex : ∃ n cap base, Blk w b0 28 #[.slice (some ⟨o, 0, none⟩) n cap] ∧ Own ic 3 1 w base (.slice (some ⟨o, 0, none⟩) n cap) d
section
variable {w w' : World} {b0 o : Nat} {d : List Int}
theorem Far.up (h : Far w b0 o d) (hb : Below w.heap.size w w') : Far w' b0 o d := by
  obtain ⟨n, cap, base, h1, h2⟩ := h.ex
  exact ⟨n, cap, base, h1.up hb, h2.below hb⟩
theorem Far.grown {row : Option Nat} (h : Far w b0 o d) (hg : w.grownBy w' row) (h1 : row ≠ some b0) (h2 : row ≠ some o) : Far w' b0 o d := by
  obtain ⟨n, cap, base, e1, e2⟩ := h.ex
  exact ⟨n, cap, base, e1.grown hg h1.symm, own_grown e2 hg fun q hq => by cases hq; exact h2⟩
end
theorem cloCmp_any (a b b0 o : Nat) (x y : Int) (d : List Int) (w : World) (hF : Far w b0 o d) (ha : d[a]? = some x) (hb : d[b]? = some y) (_hd : d.length ≤ 8) :
    Calls Try.prog 61 #[.int .i64 a, .int .i64 b, .pointer (some ⟨b0, 0, none⟩)] w fun e w' => e = .returned (.int .i64 (cmpI y x)) ∧ Below w.heap.size w w' := by
  obtain ⟨n, cap, base, h1, h2⟩ := hF.ex
  have hal := get_lt ha
  have hbl := get_lt hb
  have hn := h2.caps.1
  have c0 := h1.cell 0
  have c1 := own_int h2 ha
  have c2 := own_int h2 hb
  have e0 := fun y => wext_cell w y c0
  have e1 := fun y => wext_cell w y c1
  have e2 := fun y => wext_cell w y c2
  have HC := hide (fun W => compare_any y x W)
  clear c0 c1 c2 h1 h2 ha hb
  go_enter Try.func61, Try.ntmps61
  go_upto_region 1 with fail
  refine region_q (by kernel_rfl) (by kernel_rfl) ?_
  repeat (go_big_quiet_step ((first | (go_at_call 62; with_reducible exact q_same (HC.out _)))))
  refine wpQuiet_nil ?_
  intro wx hbx
  go_wp2
  go_ret
  exact ⟨rfl, hbx⟩
/-- Each number of L has its distance in the list d. -/
def InD (L d : List Int) (f : Int → Int) : Prop := ∀ x, x ∈ L → ∃ a : Nat, x = (a : Int) ∧ d[a]? = some (f x)
/-- The world while the slice v is sorted. -/
structure SW (w0 w : World) (v : Value) (b0 o base : Nat) (M d : List Int) : Prop where
  ow : Own ic 3 1 w base v M
  f : Far w b0 o d
  g : w0.grownBy w v.ownBlock
theorem SW.below {w0 w w' : World} {v : Value} {b0 o base : Nat} {M d : List Int} (h : SW w0 w v b0 o base M d) (hb : Below w.heap.size w w') : SW w0 w' v b0 o base M d :=
  ⟨h.ow.below hb, h.f.up hb, only_below h.g hb⟩
theorem SW.put {w0 w : World} {n cap q b0 o base i : Nat} {M d : List Int} (h : SW w0 w (.slice (some ⟨q, 0, none⟩) n cap) b0 o base M d) (hi : i < M.length) (x : Int) (h1 : q ≠ b0) (h2 : q ≠ o) :
    SW w0 (w.setCell ⟨q, i, none⟩ (.int .i64 x)) (.slice (some ⟨q, 0, none⟩) n cap) b0 o base (M.set i x) d := by
  have hg : w.grownBy (w.setCell ⟨q, i, none⟩ (.int .i64 x)) (some q) := only_setCell (only_refl _ _) (.inl rfl) _
  exact ⟨own_put h.ow hi x, h.f.grown hg (by intro e; injection e; omega) (by intro e; injection e; omega), only_trans h.g hg⟩
set_option maxRecDepth 100000 in
set_option maxHeartbeats 1600000 in
theorem insort_any (v : Value) (b0 o base : Nat) (L d : List Int) (f : Int → Int) (w : World) (hO : Own ic 3 1 w base v L) (hL : L.length ≤ 8) (hF : Far w b0 o d) (hd : d.length ≤ 8) (hne : ∀ q, v.ownBlock = some q → q ≠ b0 ∧ q ≠ o)
    (hI : InD L d f) (ha : L.Pairwise (· < ·)) :
    Calls Try.prog 112 #[v, .int .i64 0, .int .i64 (L.length : Nat), .func (.func 61) #[] #[.pointer (some ⟨b0, 0, none⟩)]] w
      fun e w' => e = .returned (.tuple #[]) ∧ ∃ M, (M.Perm L ∧ M.Pairwise (Bd2 f)) ∧ SW w w' v b0 o base M d := by
  have HS0 := hide (SW.mk hO hF (only_refl w v.ownBlock))
  obtain ⟨A, cap, rfl, hc, _⟩ := hO.lit
  have HI := hide hI
  have HA := hide ha
  obtain ⟨N, hN⟩ : ∃ N, N = L.length := ⟨_, rfl⟩
  have HN := hide hN
  have HNE := hide hne
  have hN8 : N ≤ 8 := by omega
  rw [← hN] at HS0 HNE hc
  rw [← hN]
  clear hO hF hI ha hne hL hN
  go_enter Try.func112, Try.ntmps112
  go_wp2
  go_loopg [8] (N) (fun gg iv wr => ∃ (i : Nat) (M : List Int), i + gg = N + 1 ∧ 1 ≤ i ∧ iv = .int .i64 i ∧ Hid (Srt f L i M) ∧ Hid (SW w wr (.slice A N cap) b0 o base M d))
  case atStart => exact ⟨1, L, by omega, by omega, rfl, hide (srt_start f L), HS0⟩
  case round =>
    clear HS0
    obtain ⟨i, M, hi, hi1, rfl, HM, HS⟩ := hrel
    by_cases hlt : i < N
    · obtain ⟨gko, hgko⟩ : ∃ z, z = gk := ⟨_, rfl⟩
      subst hgko
      obtain ⟨wo, hwo⟩ : ∃ wo, wo = wr := ⟨_, rfl⟩
      subst hwo
      have HMI := hide (ins_start HM.out (by have := HN.out; omega))
      clear HM
      go_wp2
      go_loopg [9] (i) (fun gg jv wr => ∃ (M : List Int), gg ≤ i ∧ jv = .int .i64 (gg : Nat) ∧ Hid (Ins f L i gg M) ∧ Hid (SW w wr (.slice A N cap) b0 o base M d))
      case atStart => exact ⟨M, Nat.le_refl _, rfl, HMI, HS⟩
      case round =>
        clear HMI HS
        obtain ⟨M, hji, rfl, HM, HS⟩ := hrel
        have HPM := hide HM.out.perm
        have HML : Hid (M.length = N) := hide (by rw [HM.out.len, HN.out])
        by_cases h0 : 0 < gk
        · obtain ⟨q, cp, hA, _, _⟩ := HS.out.ow.form (by have := HML.out; omega)
          have hA2 : A = some ⟨q, 0, none⟩ := by injection hA
          subst hA2
          clear hA cp
          obtain ⟨j, rfl⟩ : ∃ j, gk = j + 1 := ⟨gk - 1, by omega⟩
          obtain ⟨z, x, hz, hx, hsw⟩ := ins_at HM.out h0
          rw [Nat.add_sub_cancel] at hz hsw
          obtain ⟨az, hza, hzd⟩ := HI.out z (HPM.out.subset (List.mem_of_getElem? hz))
          obtain ⟨ax, hxa, hxd⟩ := HI.out x (HPM.out.subset (List.mem_of_getElem? hx))
          have c1 := own_int HS.out.ow hz
          have c2 := own_int HS.out.ow hx
          subst hza
          subst hxa
          have e1 := fun y => wext_cell wr y c1
          have e2 := fun y => wext_cell wr y c2
          have HCM := hide (fun y => cloCmp_any ax az b0 o _ _ d (wext wr y) (HS.out.f.up (wext_below wr y)) hxd hzd hd)
          obtain ⟨hq1, hq2⟩ := HNE.out q rfl
          have HZ : Hid (M[j]? = some (az : Int) ∧ M[j + 1]? = some (ax : Int)) := hide ⟨hz, hx⟩
          have HSW := hide hsw
          clear hzd hxd hz hx hsw
          go_upto_region 4 with fail
          by_cases hlt2 : f (az : Int) < f (ax : Int)
          · have hcm : decide (cmpI (f (az : Int)) (f (ax : Int)) < 0) = true := decide_eq_true ((cmpI_neg _ _).2 hlt2)
            refine region_q (by kernel_rfl) (by kernel_rfl) ?_
            repeat (go_big_quiet_step ((first | (go_at_call 61; with_reducible exact q_call (HCM.out _)))))
            refine wpQuiet_nil ?_
            intro wx hbx
            have HS1 := hide (HS.out.below hbx)
            have d1 := own_int HS1.out.ow HZ.out.1
            have d2 := own_int HS1.out.ow HZ.out.2
            have f1 := own_free HS1.out.ow j
            have f2 := own_free HS1.out.ow (j + 1)
            have HS2 := hide (((HS1.out.put (i := j + 1) (get_lt HZ.out.2) (az : Int) hq1 hq2).put (i := j) (by have := get_lt HZ.out.1; simpa using this) (ax : Int) hq1 hq2))
            have HM2 := hide (HSW.out hlt2)
            clear c1 c2 e1 e2 hcm hlt2 HS
            go_upto_region 6 with fail
            go_region
            all_goals
              go_wp2
              go_roundg j
              case measure => omega
              case rel => exact ⟨_, by omega, by go_num, HM2, hide (HS2.out.below ((Below.refl _ _).drew))⟩
          · have hcm : decide (cmpI (f (az : Int)) (f (ax : Int)) < 0) = false := decide_eq_false fun h => hlt2 ((cmpI_neg _ _).1 h)
            have HST := hide (ins_stop HA.out HM.out (fun z' x' _ h1 h2 => by
              rw [Nat.add_sub_cancel, HZ.out.1] at h1
              rw [HZ.out.2] at h2
              cases h1; cases h2; exact hlt2))
            clear hlt2
            refine region_q (by kernel_rfl) (by kernel_rfl) ?_
            repeat (go_big_quiet_step ((first | (go_at_call 61; with_reducible exact q_call (HCM.out _)))))
            refine wpQuiet_nil ?_
            intro wx hbx
            have HS1 := hide (HS.out.below hbx)
            clear c1 c2 e1 e2 HS
            go_wp2
            go_roundg (gko - 1)
            case measure => omega
            case rel => exact ⟨i + 1, _, by omega, by omega, by go_num, HST, HS1⟩
        · have h0' : gk = 0 := by omega
          have HST := hide (ins_stop HA.out HM.out (fun z' x' h _ _ => by omega))
          subst h0'
          go_upto_region 4 with fail
          refine region_q (by kernel_rfl) (by kernel_rfl) ?_
          repeat (go_big_quiet_step ((first | (fail))))
          refine wpQuiet_nil ?_
          intro wx hbx
          have HS1 := hide (HS.out.below hbx)
          clear HS
          go_wp2
          go_roundg (gko - 1)
          case measure => omega
          case rel => exact ⟨i + 1, _, by omega, by omega, by go_num, HST, HS1⟩
    · have HE := hide (srt_end HM.out (by have := HN.out; omega))
      go_wp2
      go_end0
      exact ⟨rfl, _, HE.out, HS.out⟩
set_option maxHeartbeats 800000 in
theorem sortFn_any (v : Value) (b0 o base : Nat) (L d : List Int) (f : Int → Int) (w : World) (hO : Own ic 3 1 w base v L) (hL : L.length ≤ 8) (hF : Far w b0 o d) (hd : d.length ≤ 8) (hne : ∀ q, v.ownBlock = some q → q ≠ b0 ∧ q ≠ o)
    (hI : InD L d f) (ha : L.Pairwise (· < ·)) :
    Calls Try.prog 60 #[v, .func (.func 61) #[] #[.pointer (some ⟨b0, 0, none⟩)]] w
      fun e w' => e = .returned (.tuple #[]) ∧ ∃ M, (M.Perm L ∧ M.Pairwise (Bd2 f)) ∧ SW w w' v b0 o base M d := by
  have HC := hide (insort_any v b0 o base L d f w hO hL hF hd hne hI ha)
  obtain ⟨A, cap, rfl, hc, _⟩ := hO.lit
  have HS : Calls Try.prog 94 #[.slice A L.length cap, .int .i64 (L.length : Nat), .func (.func 61) #[] #[.pointer (some ⟨b0, 0, none⟩)]] w
      fun e w' => e = .returned (.tuple #[]) ∧ ∃ M, (M.Perm L ∧ M.Pairwise (Bd2 f)) ∧ SW w w' (.slice A L.length cap) b0 o base M d := by
    clear hO hF hne hI ha
    go_enter Try.func94, Try.ntmps94
    go_wp2
    go_loopg [7, 8] (0) (fun gg av nv wr => gg = 0 ∧ av = .int .i64 0 ∧ nv = .int .i64 20 ∧ wr = w)
    case atStart => exact ⟨rfl, rfl, rfl, rfl⟩
    case round =>
      obtain ⟨hg0, rfl, rfl, hw⟩ := hrel
      subst hw
      go_wp2_with fail
      refine HC.out.mono ?_
      rintro e w1 ⟨rfl, h1⟩
      have H1 := hide h1
      clear h1
      go_wp2
      go_loopg [6] (0) (fun gg nv wr => gg = 0 ∧ nv = .int .i64 20 ∧ wr = w1)
      case atStart => exact ⟨rfl, rfl, rfl⟩
      case round =>
        obtain ⟨hg1, rfl, hw⟩ := hrel
        subst hw
        go_wp2
        go_end0
        exact ⟨rfl, H1.out⟩
  have HS := hide HS
  clear hO hF hne hI ha HC
  go_enter Try.func60, Try.ntmps60
  go_wp2_with fail
  refine HS.out.mono ?_
  rintro e w1 ⟨rfl, h1⟩
  have H1 := hide h1
  clear h1
  go_wp2
  go_end0
  exact ⟨rfl, H1.out⟩
end Go.Proofs.Ytbhkjeicogjfbaa
