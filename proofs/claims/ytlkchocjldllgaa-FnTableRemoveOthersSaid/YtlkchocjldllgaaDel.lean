/- slices.Delete of one route. Conditions: the slice is the call's own. -/
import Derived.Test.YtlkchocjldllgaaCopyS
import Derived.Test.YtlkchocjldllgaaCopyK
import Derived.Deep.RegionLaw
namespace Go.Proofs.Ytlkchocjldllgaa
open Go.RowKit

set_option maxRecDepth 100000 in
set_option maxHeartbeats 1600000 in
theorem del_any (g n cap : Nat) (l : List Rt) (k base : Nat) (w : World) (hO : Own rc 40 3 w base (.slice (some ⟨g, 0, none⟩) n cap) l) (hk : k < l.length) (hl : l.length ≤ 1048576) :
    Calls Try.prog 74 #[.slice (some ⟨g, 0, none⟩) n cap, .int .i64 k, .int .i64 ((k : Int) + 1)] w
      fun e w' => e = .returned (.slice (some ⟨g, 0, none⟩) (n - 1) cap) ∧ Own rc 40 3 w' base (.slice (some ⟨g, 0, none⟩) (n - 1) cap) (l.take k ++ l.drop (k + 1)) ∧ w.grownBy w' (some g) := by
  obtain ⟨hn, hc, hm⟩ := hO.caps
  unfold maxLen at hm
  obtain ⟨i0, hi, hz0, hz1, hz2⟩ := info_parts Try.infoR
  have hT := hO.cut rc_len hn (k := k) (by omega)
  have hTl : (l.take k).length = k := by simp; omega
  have hDl : (l.drop (k + 1)).length = n - (k + 1) := by simp; omega
  have hO' := hO
  rw [hn] at hO'
  have hnews := (hO'.slr rc_len).drop (k := k + 1) (c := cap - (k + 1)) (by omega) (by omega)
  rw [Nat.zero_add, ← hn] at hnews
  obtain ⟨ad, had⟩ : ∃ ad : Addr, ad = if cap = k + 1 then ⟨g, 0, none⟩ else ⟨g, (k + 1) * 3, none⟩ := ⟨_, rfl⟩
  have hcells : ∀ j u, ((l.drop (k + 1)).flatMap rc)[j]? = some u → w.cell? (ad.add j) = some u := by
    intro j u hu
    by_cases h : cap = k + 1
    · have := get_lt hu
      rw [flat_len rc_len, hDl] at this
      omega
    · rw [had, if_neg h]
      exact hnews.news rc_len w (Below.refl _ _) j u hu
  have hT' := hT
  unfold Own at hT'
  rw [hTl] at hT'
  obtain ⟨w1, hrun, hown, hg1⟩ := run_append_fits (P := Try.prog) w.drew base 28 28 40 i0 3 Try.underlying28 hi hz1 g k cap _ (World.ownsRow.drew hT') ad (n - (k + 1)) (cap - (k + 1)) _ (by rw [flat_len rc_len, hDl]) hcells (flat_one rc_one _) (by omega)
  rw [show k + (n - (k + 1)) = n - 1 from by omega] at hrun hown
  have hown1 : Own rc 40 3 w1 base (.slice (some ⟨g, 0, none⟩) (n - 1) cap) (l.take k ++ l.drop (k + 1)) := by
    unfold Own
    rw [List.length_append, hTl, hDl, show k + (n - (k + 1)) = n - 1 from by omega, List.flatMap_append]
    exact hown
  have hclear := fun ty c => run_clearK (P := Try.prog) w1 28 40 ty (.agg #[.int .i64 0, .int .i64 0, .int .i64 0]) Try.underlying28 ⟨i0, hi, hz0⟩ g ((n - 1) * 3) 1 c
    (fun j hj => own_slots hown _ (by simp [Value.cells] at hj; omega)) (fun j _ => World.ownsRow.frozenAt hown _) (by simp [Value.cells, Value.oneCell']) (by simp [Value.cells])
  have hbeh := hown1.behind (by simp; omega) ((n - 1) * 3) (Builtin.zeroCells (Value.agg #[.int .i64 0, .int .i64 0, .int .i64 0]).cells 1).toList (by simp; omega)
  have HB := hide hbeh
  have hg1' : w.grownBy w1 (some g) := ⟨hg1.os, hg1.tape, hg1.output, hg1.size, hg1.block⟩
  have HG := hide hg1'
  clear hbeh hg1 hg1' hown1 hown hnews hcells hT hT' hO' hO hDl hTl hz0 hz1 hz2 hi
  obtain ⟨n1, hn1⟩ : ∃ n1, n = n1 + 1 := ⟨n - 1, by omega⟩
  subst hn1
  rw [Nat.add_sub_cancel] at hrun hclear HB ⊢
  have hk1 : k ≤ n1 := by omega
  have hn1 : n1 ≤ 1048576 := by omega
  have q0 : (0 : Int) ≤ (k : Int) + 1 := by omega
  rw [Nat.add_sub_add_right] at hrun
  clear hn hk hl
  by_cases hcap : cap = k + 1
  · rw [if_pos hcap] at had
    subst had
    obtain rfl : k = n1 := by omega
    have q1 : (k : Int) ≤ (k : Int) + 1 := by omega
    have q2 : k ≤ k + 1 := by omega
    subst hcap
    simp only [Nat.sub_self] at hrun
    go_enter Try.func74, Try.ntmps74
    go_upto_region 5 with fail
    go_region_law (refine step_append_r (by rfl) (.tmp 22) (.tmp 25) _ _ (by rfl) _ _ (by rfl) (by rfl) hrun ?_)
    go_wp2_with (refine wpList_clear_r _ rfl (.tmp 31) _ rfl _ rfl (hclear _ _) ?_)
    go_ret
    exact ⟨rfl, HB.out.1, grown_trans HG.out HB.out.2⟩
  · rw [if_neg hcap] at had
    subst had
    have q2 : k ≤ cap := by omega
    have q3 : k + 1 ≤ n1 + 1 := by omega
    have q4 : n1 + 1 ≤ cap := by omega
    have q5 : ¬ (cap = n1) := by omega
    go_enter Try.func74, Try.ntmps74
    go_upto_region 5 with fail
    go_region_law (refine step_append_r (by rfl) (.tmp 22) (.tmp 25) _ _ (by rfl) _ _ (by rfl) (by rfl) hrun ?_)
    go_wp2_with (refine wpList_clear_r _ rfl (.tmp 31) _ rfl _ rfl (hclear _ _) ?_)
    go_ret
    exact ⟨rfl, HB.out.1, grown_trans HG.out HB.out.2⟩
end Go.Proofs.Ytlkchocjldllgaa
