/- The statement FnExactSpeakerApply: for every list of candidates the law returns true and its argument reads as before. Conditions: none. -/
import Derived.Test.YtkldfjlgphapeaaApply3
import Derived.Test.YtkldfjlgphapeaaApplyQ
import Derived.Test.YtkldfjlgphapeaaOpenC
namespace Go.Proofs.Ytkldfjlgphapeaa
open Go.ChangeShapes Go.WideShapes Go.ChangeAt Go.RowKit

set_option maxRecDepth 100000 in
set_option maxHeartbeats 800000 in
theorem lawSpeakerApply (v : Value) (cs : List Cand) (w : World) (hv : SlR cc 3 w w.heap.size v cs) (hm : cs.length ≤ 9223372036854775807) :
    Calls Try.prog 11 #[v] w fun e w' => e = .returned (.bool true) ∧ Below w.heap.size w w' := by
  by_cases hn : cs.length ≤ 1048576
  · obtain ⟨out, ho⟩ : ∃ out, out = appL cs := ⟨_, rfl⟩
    have hlo : out.length ≤ cs.length := by rw [ho]; exact appL_len cs
    have hlo' : out.length ≤ 1048576 := by omega
    have HO := hide ho
    clear ho
    go_enter Try.func11, Try.ntmps11
    go_wp2_with fail
    refine (sz_any v cs _ hv hn).mono ?_
    rintro e w0 ⟨rfl, rfl⟩
    go_wp2_with fail
    refine (toS_any v cs _ hv hn).mono ?_
    rintro e w1 ⟨x, rfl, ho1, hb1⟩
    go_wp2_with fail
    refine (specApply_any x cs _ (ho1.slr cc_len) hn).mono ?_
    rintro e w2 ⟨y, rfl, ho2, hb2⟩
    rw [← HO.out] at ho2
    have hb02 := hb1.trans (hb2.mono hb1.size)
    have hy2 := ho2.slr cc_len
    obtain ⟨B, hB⟩ : ∃ B, B = w2.heap.size := ⟨_, rfl⟩
    rw [← hB] at hy2
    have hwB : w0.heap.size ≤ B := by rw [hB]; exact hb02.size
    go_wp2_with fail
    refine (toS_any v cs _ (hv.up hb02) hn).mono ?_
    rintro e w3 ⟨x0, rfl, ho3, hb3⟩
    have hb03 := hb02.trans (hb3.mono hb02.size)
    rw [← hB] at ho3 hb3
    have hy3 := hy2.below hb3
    obtain ⟨C, hC⟩ : ∃ C, C = w3.heap.size := ⟨_, rfl⟩
    have hBC : B ≤ C := by rw [hC, hB]; rw [hB] at hb3; exact hb3.size
    have hxq : ∀ q, x0.ownBlock = some q → B ≤ q ∧ q < C := fun q hq => by rw [hC]; exact World.ownsRow.lt ho3 q hq
    clear hb1 hb2 hb3 ho1 ho2 hy2 hb02 hB
    have HXQ := hide hxq
    clear hxq
    go_wp2_with fail
    refine (speakerApply_any x0 cs _ (ho3.slr cc_len) hn).mono ?_
    rintro e w4 ⟨g0, rfl, ho4, hb4⟩
    rw [← HO.out] at ho4
    have hx4 := ho3.below hb4
    have hb04 := hb03.trans (hb4.mono hb03.size)
    rw [← hC] at ho4 hb4
    have hy4 := hy3.below (hb4.mono hBC)
    have hC4 : C ≤ w4.heap.size := by rw [hC]; rw [hC] at hb4; exact hb4.size
    have hgq : ∀ q, g0.ownBlock = some q → C ≤ q := fun q hq => (World.ownsRow.lt ho4 q hq).1
    have HGQ := hide hgq
    clear hgq ho3 hb4 hy3 hb03 hC
    go_wp2_with fail
    refine (eqS_any g0 y out out _ (ho4.slr cc_len) (hy4.more (by omega)) hlo' hlo').mono ?_
    rintro e w5 ⟨rfl, hb5⟩
    rw [eqB_self]
    have hb05 := hb04.trans (hb5.mono hb04.size)
    have hx5 := hx4.below hb5
    have hy5 := hy4.below (hb5.mono (by omega))
    have hg5 := ho4.below hb5
    have hC5 : C ≤ w5.heap.size := Nat.le_trans hC4 hb5.size
    clear hb5 hx4 hy4 ho4 hb04 hC4
    go_wp2_with fail
    refine (toS_any v cs _ (hv.up hb05) hn).mono ?_
    rintro e w6 ⟨x6, rfl, ho6, hb6⟩
    have hb06 := hb05.trans (hb6.mono hb05.size)
    have hx6 := hx5.below hb6
    have hy6 := hy5.below (hb6.mono (by omega))
    have hg6 := hg5.below hb6
    have hC6 : C ≤ w6.heap.size := Nat.le_trans hC5 hb6.size
    clear hb6 hx5 hy5 hg5 hb05 hC5
    go_wp2_with fail
    refine (eqS_any x0 x6 cs cs _ (hx6.slr cc_len) (ho6.slr cc_len) hn hn).mono ?_
    rintro e w7 ⟨rfl, hb7⟩
    rw [eqB_self]
    have hb07 := hb06.trans (hb7.mono hb06.size)
    have hx7 := hx6.below hb7
    have hy7 := hy6.below (hb7.mono (by omega))
    have hg7 := hg6.below hb7
    have hC7 : C ≤ w7.heap.size := Nat.le_trans hC6 hb7.size
    clear hb7 hx6 hy6 hg6 hb06 ho6 hC6
    go_wp2_with fail
    refine (mark_any x0 cs _ _ hx7 hn).mono ?_
    rintro e w8 ⟨rfl, hx8, hgr8⟩
    have hb8 : Below B w7 w8 := (Below.refl _ w7).grown hgr8 (by omega) (fun q hq => (HXQ.out q hq).1)
    have hg8 : Own cc 34 3 w8 C g0 out := hg7.keep fun q hq => hgr8.block q (World.ownsRow.lt hg7 q hq).2 (fun h => by have := HXQ.out q h.symm; have := HGQ.out q hq; omega)
    have hb08 := hb07.trans (hb8.mono hwB)
    have hy8 := hy7.below hb8
    have hC8 : C ≤ w8.heap.size := Nat.le_trans hC7 hgr8.size
    clear hb8 hx7 hx8 hy7 hg7 hb07 hgr8 hC7
    go_wp2_with fail
    refine (eqS_any g0 y out out _ (hg8.slr cc_len) (hy8.more (by omega)) hlo' hlo').mono ?_
    rintro e w9 ⟨rfl, hb9⟩
    rw [eqB_self]
    have hb09 := hb08.trans (hb9.mono hb08.size)
    have hy9 := hy8.below (hb9.mono (by omega))
    have hg9 := hg8.below hb9
    have hC9 : C ≤ w9.heap.size := Nat.le_trans hC8 hb9.size
    clear hb9 hy8 hg8 hb08 hC8
    obtain ⟨q0, hq0⟩ : ∃ q0 : Int, q0 = 1 + 3 * (out.length : Int) := ⟨_, rfl⟩
    have hq1 : 0 ≤ q0 := by omega
    have hq2 : q0 < 9223372036854775807 := by omega
    have HQ0 := hide hq0
    clear hq0
    go_wp2_with fail
    refine (mark_any g0 out _ _ hg9 hlo').mono ?_
    rintro e w10 ⟨rfl, hg10, hgr10⟩
    rw [← HQ0.out]
    have hb10 : Below C w9 w10 := (Below.refl _ w9).grown hgr10 hC9 (fun q hq => HGQ.out q hq)
    have hb010 := hb09.trans (hb10.mono (Nat.le_trans hwB hBC))
    have hy10 := hy9.below (hb10.mono hBC)
    have hC10 : C ≤ w10.heap.size := Nat.le_trans hC9 hgr10.size
    clear hb10 hy9 hg9 hb09 hgr10 hC9
    obtain ⟨mk, hmk⟩ : ∃ mk, mk = marks out.length 1 := ⟨_, rfl⟩
    rw [← hmk] at hg10
    have hmkl : mk.length = out.length := by rw [hmk, marks_len]
    have hmkm : mk = marks mk.length 1 := by rw [hmkl]; exact hmk
    have HMK := hide hmkm
    have HMKL := hide hmkl
    have hmkn : mk.length ≤ 1048576 := by omega
    clear hmk hmkl hmkm
    have hg10s := hg10.slr cc_len
    clear hg10
    have hqm : (q0 != q0) = false := by simp
    go_wp2_with fail
    refine (held_any g0 mk _ hg10s hmkn HMK.out).mono ?_
    rintro e w11 ⟨rfl, rfl⟩
    rw [HMKL.out, ← HQ0.out]
    go_wp2_with fail
    refine (toS_any v cs _ (hv.up hb010) hn).mono ?_
    rintro e w12 ⟨x12, rfl, ho12, hb12⟩
    have hb012 := hb010.trans (hb12.mono hb010.size)
    have hg12 := hg10s.up hb12
    have hC12 : C ≤ w12.heap.size := Nat.le_trans hC10 hb12.size
    have hy12 := hy10.below (hb12.mono (by omega))
    clear hb12 hb010 hg10s hy10 hC10
    go_wp2_with fail
    refine (speakerApply_any x12 cs _ (ho12.slr cc_len) hn).mono ?_
    rintro e w13 ⟨h0, rfl, ho13, hb13⟩
    rw [← HO.out] at ho13
    have hb013 := hb012.trans (hb13.mono hb012.size)
    have hg13 := hg12.up hb13
    have hC13 : C ≤ w13.heap.size := Nat.le_trans hC12 hb13.size
    have hy13 := hy12.below (hb13.mono (by omega))
    clear hb13 hb012 hg12 hy12 hC12 ho12
    go_wp2_with fail
    refine (eqS_any h0 y out out _ (ho13.slr cc_len) (hy13.more (by omega)) hlo' hlo').mono ?_
    rintro e w14 ⟨rfl, hb14⟩
    rw [eqB_self]
    have hb014 := hb013.trans (hb14.mono hb013.size)
    have hg14 := hg13.up hb14
    clear hb14 hb013 hg13 hy13 hC13 ho13
    go_wp2_with fail
    refine (held_any g0 mk _ hg14 hmkn HMK.out).mono ?_
    rintro e w15 ⟨rfl, rfl⟩
    rw [HMKL.out, ← HQ0.out]
    go_wp2
    go_ret
    exact ⟨rfl, hb014⟩
  · go_enter Try.func11, Try.ntmps11
    go_wp2_with fail
    refine (sz_over v cs _ hv (by omega) hm).mono ?_
    rintro e w0 ⟨rfl, rfl⟩
    go_wp2
    go_ret
    exact ⟨rfl, Below.refl _ _⟩
set_option maxRecDepth 100000 in
theorem fnExactSpeakerApply_lifted (os : Os) (started : os.Started) (H : Type) (enc : TypeId × Value → H) :
    ReturnsInHanded {} Try.checked os 11 .any (Rows.fnExactSpeakerApplySpec.pre6 enc Try.prog Try.f11 Rows.fnExactSpeakerApplyRow.domain false) (Rows.fnExactSpeakerApplySpec.post enc Try.prog Try.f11 false true false false) := by
  refine returnsInHanded_of_change (C := Try.checked) own started (by kernel_rfl) Try.func11
    (ChangeSpec.witness6 (enc := enc) (C := Try.checked) false ⟨#[], #[.slice none 0 0], []⟩ 8 (by kernel_rfl) (by kernel_rfl) (by kernel_rfl) (by kernel_rfl)) ?_
  intro W base args ds gs before hval0 hW hcnd _
  have hval : ∀ (j : Nat) t v, Try.f11.params[j]? = some t → args[j]? = some v → Value.okWide Try.prog W .any base t v := hval0
  have hW' := hW
  obtain ⟨p, q, hA0, hV, rfl, hfz, hnd⟩ := hW
  have hA : DataW.TrodAll enc Try.prog W 0 (fun _ => true) true Try.f11.params.toList args.toList ds p := hA0
  rw [Try.params11] at hA hval
  obtain ⟨v0, vs0, d0, ds0, p0, q0, hargs, rfl, rfl, h0, r0⟩ := trodAll_cons hA
  obtain ⟨rfl, rfl, rfl⟩ := trodAll_nil r0
  obtain rfl : args = #[v0] := by cases args; simp_all
  obtain ⟨rfl, rfl⟩ := trodVars_none hV
  have k0 := h0
  have lt0 : ∀ x ∈ p0, x.block < W.heap.size := by obtain ⟨m, hm⟩ := k0; exact DataW.trod_lt m _ _ _ hm
  obtain ⟨a0, len0, cap0, rfl⟩ := okWide_slice Try.underlying22 (hval 0 22 v0 rfl rfl)
  obtain ⟨x0, s0, m0⟩ : ∃ x, SlR cc 3 W W.heap.size (.slice a0 len0 cap0) x ∧ x.length ≤ 9223372036854775807 := by
    obtain ⟨fuel, hf⟩ := h0
    exact open_cands hf
  clear hA0 hval0
  refine (lawSpeakerApply (.slice a0 len0 cap0) x0 W s0 m0).mono fun e W' ⟨he, bel⟩ => ?_
  subst he
  exact ⟨_, rfl, _, _, _, [], _, [], hW', trodAll_mk1 (shut_bool Try.underlying4 _), (trodAll_cons_mk (Below.trod laidOut (by kernel_rfl) (of_decide_eq_true (by kernel_rfl)) k0 bel lt0) trodAll_mk0), rfl, bel.frame _, fun h => by cases h⟩

theorem fnExactSpeakerApply_over : Rows.fnExactSpeakerApplyRow.holds Try.pinned (OpenSpec.ofChange Rows.fnExactSpeakerApplySpec) :=
  OpenClaim.holds_of_wide 11 Try.f11 rfl rfl rfl rfl rfl rfl rfl ⟨rfl, rfl, rfl, rfl, rfl⟩ rfl rfl rfl rfl rfl (by kernel_rfl) Try.func11 (by kernel_rfl)
    (of_decide_eq_true (by kernel_rfl)) (by unfold Func.isWrapper; first | (rw [if_pos (by decide +kernel)]; kernel_rfl) | (rw [if_neg (by decide +kernel)]; exact ⟨rfl, rfl⟩))
    (fun os started H enc _ => fnExactSpeakerApply_lifted os started H enc)

theorem fnExactSpeakerApply_holds : Rows.FnExactSpeakerApplySaid := fnExactSpeakerApply_over
#print axioms fnExactSpeakerApply_holds
end Go.Proofs.Ytkldfjlgphapeaa
