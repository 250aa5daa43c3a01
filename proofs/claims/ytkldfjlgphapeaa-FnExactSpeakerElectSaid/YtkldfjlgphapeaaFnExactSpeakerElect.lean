/- The statement FnExactSpeakerElect: for every list of candidates the law returns true and its argument reads as before. Conditions: none. -/
import Derived.Test.YtkldfjlgphapeaaElectI
import Derived.Test.YtkldfjlgphapeaaOpenC
namespace Go.Proofs.Ytkldfjlgphapeaa
open Go.ChangeShapes Go.WideShapes Go.ChangeAt Go.RowKit

theorem lawSpeakerElect (v : Value) (cs : List Cand) (w : World) (hv : SlR cc 3 w w.heap.size v cs) (hm : cs.length ≤ 9223372036854775807) :
    Calls Try.prog 4 #[v] w fun e w' => e = .returned (.bool true) ∧ Below w.heap.size w w' := by
  by_cases hn : cs.length ≤ 1048576
  · obtain ⟨s, hs⟩ : ∃ s, s = if validB cs = true then spk cs else -1 := ⟨_, rfl⟩
    obtain ⟨t, ht⟩ : ∃ t, t = if validB cs = true then bak cs else -1 := ⟨_, rfl⟩
    have HS := hide hs
    have HT := hide ht
    clear hs ht
    go_enter Try.func4, Try.ntmps4
    go_wp2_with fail
    refine (sz_any v cs _ hv hn).mono ?_
    rintro e w0 ⟨rfl, rfl⟩
    go_wp2_with fail
    refine (toS_any v cs _ hv hn).mono ?_
    rintro e w1 ⟨x, rfl, ho1, hb1⟩
    go_wp2_with fail
    refine (specElect_any x cs _ (ho1.slr cc_len) hn).mono ?_
    rintro e w2 ⟨rfl, hb2⟩
    rw [← HS.out, ← HT.out]
    have hb02 := hb1.trans (hb2.mono hb1.size)
    go_wp2_with fail
    refine (toS_any v cs _ (hv.up hb02) hn).mono ?_
    rintro e w3 ⟨y, rfl, ho3, hb3⟩
    have hb03 := hb02.trans (hb3.mono hb02.size)
    go_wp2_with fail
    refine (speakerElect_any y cs _ (ho3.slr cc_len) hn).mono ?_
    rintro e w4 ⟨rfl, hb4⟩
    rw [← HS.out, ← HT.out]
    have hb04 := hb03.trans (hb4.mono hb03.size)
    have ho4 := (ho3.slr cc_len).up hb4
    have hne : (s != s) = false := by simp
    have hne' : (t != t) = false := by simp
    go_wp2_with fail
    refine (toS_any v cs _ (hv.up hb04) hn).mono ?_
    rintro e w5 ⟨z, rfl, ho5, hb5⟩
    have hb05 := hb04.trans (hb5.mono hb04.size)
    go_wp2_with fail
    refine (eqS_any y z cs cs _ (ho4.up hb5) (ho5.slr cc_len) hn hn).mono ?_
    rintro e w6 ⟨rfl, hb6⟩
    have hb06 := hb05.trans (hb6.mono hb05.size)
    rw [eqB_self]
    go_wp2
    go_ret
    exact ⟨rfl, hb06⟩
  · go_enter Try.func4, Try.ntmps4
    go_wp2_with fail
    refine (sz_over v cs _ hv (by omega) hm).mono ?_
    rintro e w0 ⟨rfl, rfl⟩
    go_wp2
    go_ret
    exact ⟨rfl, Below.refl _ _⟩

set_option maxRecDepth 100000 in
theorem fnExactSpeakerElect_lifted (os : Os) (started : os.Started) (H : Type) (enc : TypeId × Value → H) :
    ReturnsInHanded {} Try.checked os 4 .any (Rows.fnExactSpeakerElectSpec.pre6 enc Try.prog Try.f4 Rows.fnExactSpeakerElectRow.domain false) (Rows.fnExactSpeakerElectSpec.post enc Try.prog Try.f4 false true false false) := by
  refine returnsInHanded_of_change (C := Try.checked) own started (by kernel_rfl) Try.func4
    (ChangeSpec.witness6 (enc := enc) (C := Try.checked) false ⟨#[], #[.slice none 0 0], []⟩ 8 (by kernel_rfl) (by kernel_rfl) (by kernel_rfl) (by kernel_rfl)) ?_
  intro W base args ds gs before hval0 hW hcnd _
  have hval : ∀ (j : Nat) t v, Try.f4.params[j]? = some t → args[j]? = some v → Value.okWide Try.prog W .any base t v := hval0
  have hW' := hW
  obtain ⟨p, q, hA0, hV, rfl, hfz, hnd⟩ := hW
  have hA : DataW.TrodAll enc Try.prog W 0 (fun _ => true) true Try.f4.params.toList args.toList ds p := hA0
  rw [Try.params4] at hA hval
  obtain ⟨v0, vs0, d0, ds0, p0, q0, hargs, rfl, rfl, h0, r0⟩ := trodAll_cons hA
  obtain ⟨rfl, rfl, rfl⟩ := trodAll_nil r0
  obtain rfl : args = #[v0] := by cases args; simp_all
  obtain ⟨rfl, rfl⟩ := trodVars_none hV
  have k0 := h0
  have lt0 : ∀ x ∈ p0, x.block < W.heap.size := by obtain ⟨m, hm⟩ := k0; exact DataW.trod_lt m _ _ _ hm
  obtain ⟨a0, len0, cap0, rfl⟩ := okWide_slice Try.underlying22 (hval 0 22 v0 rfl rfl)
  obtain ⟨x0, s0, m0⟩ : ∃ x, SlR cc 3 W W.heap.size (.slice a0 len0 cap0) x ∧ x.length ≤ 9223372036854775807 := by
    obtain ⟨fuel, hf⟩ := h0
    exact open_cands hf
  clear hA0 hval0
  refine (lawSpeakerElect (.slice a0 len0 cap0) x0 W s0 m0).mono fun e W' ⟨he, bel⟩ => ?_
  subst he
  exact ⟨_, rfl, _, _, _, [], _, [], hW', trodAll_mk1 (shut_bool Try.underlying4 _), (trodAll_cons_mk (Below.trod laidOut (by kernel_rfl) (of_decide_eq_true (by kernel_rfl)) k0 bel lt0) trodAll_mk0), rfl, bel.frame _, fun h => by cases h⟩

theorem fnExactSpeakerElect_over : Rows.fnExactSpeakerElectRow.holds Try.pinned (OpenSpec.ofChange Rows.fnExactSpeakerElectSpec) :=
  OpenClaim.holds_of_wide 4 Try.f4 rfl rfl rfl rfl rfl rfl rfl ⟨rfl, rfl, rfl, rfl, rfl⟩ rfl rfl rfl rfl rfl (by kernel_rfl) Try.func4 (by kernel_rfl)
    (of_decide_eq_true (by kernel_rfl)) (by unfold Func.isWrapper; first | (rw [if_pos (by decide +kernel)]; kernel_rfl) | (rw [if_neg (by decide +kernel)]; exact ⟨rfl, rfl⟩))
    (fun os started H enc _ => fnExactSpeakerElect_lifted os started H enc)

theorem fnExactSpeakerElect_holds : Rows.FnExactSpeakerElectSaid := fnExactSpeakerElect_over
#print axioms fnExactSpeakerElect_holds
end Go.Proofs.Ytkldfjlgphapeaa
