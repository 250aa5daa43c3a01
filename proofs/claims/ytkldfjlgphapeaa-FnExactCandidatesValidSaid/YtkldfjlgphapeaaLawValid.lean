/- The law FnExactCandidatesValid, walked: it returns true for every list of candidates, and leaves what was there as it was. Conditions: the length of a slice. -/
import Derived.Test.YtkldfjlgphapeaaValid
namespace Go.Proofs.Ytkldfjlgphapeaa
open Go.RowKit

theorem lawCandidatesValid (v : Value) (cs : List Cand) (w : World) (hv : SlR cc 3 w w.heap.size v cs) (hm : cs.length ≤ 9223372036854775807) :
    Calls Try.prog 3 #[v] w fun e w' => e = .returned (.bool true) ∧ Below w.heap.size w w' := by
  by_cases hn : cs.length ≤ 1048576
  · go_enter Try.func3, Try.ntmps3
    go_wp2_with fail
    refine (sz_any v cs _ hv hn).mono ?_
    rintro e w0 ⟨rfl, rfl⟩
    go_wp2_with fail
    refine (toS_any v cs _ hv hn).mono ?_
    rintro e w1 ⟨x, rfl, ho1, hb1⟩
    go_wp2_with fail
    refine (specValid_any x cs _ (ho1.slr cc_len) hn).mono ?_
    rintro e w2 ⟨rfl, hb2⟩
    have hb02 := hb1.trans (hb2.mono hb1.size)
    go_wp2_with fail
    refine (toS_any v cs _ (hv.up hb02) hn).mono ?_
    rintro e w3 ⟨y, rfl, ho3, hb3⟩
    have hb03 := hb02.trans (hb3.mono hb02.size)
    go_wp2_with fail
    refine (candidatesValid_any y cs _ (ho3.slr cc_len) hn).mono ?_
    rintro e w4 ⟨rfl, hb4⟩
    have hb04 := hb03.trans (hb4.mono hb03.size)
    have ho4 := (ho3.slr cc_len).up hb4
    have hne : (validB cs != validB cs) = false := by simp
    go_wp2_with fail
    refine (toS_any v cs _ (hv.up hb04) hn).mono ?_
    rintro e w5 ⟨z, rfl, ho5, hb5⟩
    have hb05 := hb04.trans (hb5.mono hb04.size)
    go_wp2_with fail
    refine (eqS_any y z cs cs _ (ho4.up hb5) (ho5.slr cc_len) hn hn).mono ?_
    rintro e w6 ⟨rfl, hb6⟩
    have hb06 := hb05.trans (hb6.mono hb05.size)
    rw [eqB_self]
    go_wp2
    go_ret
    exact ⟨rfl, hb06⟩
  · go_enter Try.func3, Try.ntmps3
    go_wp2_with fail
    refine (sz_over v cs _ hv (by omega) hm).mono ?_
    rintro e w0 ⟨rfl, rfl⟩
    go_wp2
    go_ret
    exact ⟨rfl, Below.refl _ _⟩
end Go.Proofs.Ytkldfjlgphapeaa
