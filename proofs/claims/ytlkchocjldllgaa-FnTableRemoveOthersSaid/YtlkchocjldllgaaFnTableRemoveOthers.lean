/- The statement FnTableRemoveOthers: for all arguments the law returns true and its arguments read as before. Conditions: none. -/
import Derived.Test.YtlkchocjldllgaaLawR
import Derived.Test.YtlkchocjldllgaaOpenT
import Derived.Test.YtlkchocjldllgaaHead
namespace Go.Proofs.Ytlkchocjldllgaa
open Go.ChangeShapes Go.WideShapes Go.ChangeAt Go.RowKit
set_option maxRecDepth 100000 in
theorem fnTableRemoveOthers_lifted (os : Os) (started : os.Started) (H : Type) (enc : TypeId × Value → H) :
    ReturnsInHanded {} Try.checked os 12 .any (Rows.fnTableRemoveOthersSpec.pre6 enc Try.prog Try.f12 Rows.fnTableRemoveOthersRow.domain false) (Rows.fnTableRemoveOthersSpec.post enc Try.prog Try.f12 false true false false) := by
  refine returnsInHanded_of_change (C := Try.checked) own started (by kernel_rfl) Try.func12
    (ChangeSpec.witness6 (enc := enc) (C := Try.checked) false ⟨#[], #[.slice none 0 0, .slice none 0 0], []⟩ 8 (by kernel_rfl) (by kernel_rfl) (by kernel_rfl) (by kernel_rfl)) ?_
  intro W base args ds gs before hval0 hW hcnd _
  have hval : ∀ (j : Nat) t v, Try.f12.params[j]? = some t → args[j]? = some v → Value.okWide Try.prog W .any base t v := hval0
  have hW' := hW
  obtain ⟨p, q, hA0, hV, rfl, hfz, hnd⟩ := hW
  have hA : DataW.TrodAll enc Try.prog W 0 (fun _ => true) true Try.f12.params.toList args.toList ds p := hA0
  rw [Try.params12] at hA hval
  obtain ⟨v0, vs0, d0, ds0, p0, q0, hargs, rfl, rfl, h0, r0⟩ := trodAll_cons hA
  obtain ⟨v1, vs1, d1, ds1, p1, q1, rfl, rfl, rfl, h1, r1⟩ := trodAll_cons r0
  obtain ⟨rfl, rfl, rfl⟩ := trodAll_nil r1
  obtain rfl : args = #[v0, v1] := by cases args; simp_all
  obtain ⟨rfl, rfl⟩ := trodVars_none hV
  have k0 := h0
  have lt0 : ∀ x ∈ p0, x.block < W.heap.size := by obtain ⟨m, hm⟩ := k0; exact DataW.trod_lt m _ _ _ hm
  obtain ⟨a0, len0, cap0, rfl⟩ := okWide_slice Try.underlying36 (hval 0 36 v0 rfl rfl)
  obtain ⟨x0, s0, m0⟩ : ∃ x, SlR bc 1 W W.heap.size (.slice a0 len0 cap0) x ∧ (x.length ≤ 9223372036854775807 ∧ ∀ n ∈ x, 0 ≤ n ∧ n ≤ 255) := by
    obtain ⟨fuel, hf⟩ := h0
    exact open_bytes hf
  have k1 := h1
  have lt1 : ∀ x ∈ p1, x.block < W.heap.size := by obtain ⟨m, hm⟩ := k1; exact DataW.trod_lt m _ _ _ hm
  obtain ⟨a1, len1, cap1, rfl⟩ := okWide_slice Try.underlying36 (hval 1 36 v1 rfl rfl)
  obtain ⟨x1, s1, m1⟩ : ∃ x, SlR bc 1 W W.heap.size (.slice a1 len1 cap1) x ∧ (x.length ≤ 9223372036854775807 ∧ ∀ n ∈ x, 0 ≤ n ∧ n ≤ 255) := by
    obtain ⟨fuel, hf⟩ := h1
    exact open_bytes hf
  clear hA0 hval0
  refine (lawTableRemoveOthers (.slice a0 len0 cap0) x0 (.slice a1 len1 cap1) x1 W s0 m0 s1 m1).mono fun e W' ⟨he, bel⟩ => ?_
  subst he
  exact ⟨_, rfl, _, _, _, [], _, [], hW', trodAll_mk1 (shut_bool Try.underlying4 _), (trodAll_cons_mk (Below.trod laidOut (by kernel_rfl) (of_decide_eq_true (by kernel_rfl)) k0 bel lt0) (trodAll_cons_mk (Below.trod laidOut (by kernel_rfl) (of_decide_eq_true (by kernel_rfl)) k1 bel lt1) trodAll_mk0)), rfl, bel.frame _, fun h => by cases h⟩

theorem fnTableRemoveOthers_closed : joinedFacts Try.prog 12 Try.f12 Rows.fnTableRemoveOthersSpec Rows.fnTableRemoveOthersRow = true := by
  unfold joinedFacts
  rw [enterOk, liftsOk, makeOk]
  kernel_rfl
theorem fnTableRemoveOthers_over : Rows.fnTableRemoveOthersRow.holds Try.pinned (OpenSpec.ofChange Rows.fnTableRemoveOthersSpec) :=
  OpenClaim.holds_of_wide 12 Try.f12 rfl rfl rfl rfl rfl rfl rfl ⟨rfl, rfl, rfl, rfl, rfl⟩ rfl rfl rfl rfl rfl (by kernel_rfl) Try.func12 fnTableRemoveOthers_closed
    (of_decide_eq_true (by kernel_rfl)) (by unfold Func.isWrapper; first | (rw [if_pos (by decide +kernel)]; kernel_rfl) | (rw [if_neg (by decide +kernel)]; exact ⟨rfl, rfl⟩))
    (fun os started H enc _ => fnTableRemoveOthers_lifted os started H enc)

theorem fnTableRemoveOthers_holds : Rows.FnTableRemoveOthersSaid := fnTableRemoveOthers_over
#print axioms fnTableRemoveOthers_holds
end Go.Proofs.Ytlkchocjldllgaa
