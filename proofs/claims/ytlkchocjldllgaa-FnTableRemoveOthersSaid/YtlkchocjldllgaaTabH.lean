/- Tables: size, comparison, marks. Conditions: at most 1048576 routes and hops. -/
import Derived.Test.YtlkchocjldllgaaTabE
namespace Go.Proofs.Ytlkchocjldllgaa
open Go.RowKit

def tabSize (t : Tab) : Nat := t.routes.length + t.hops.length
set_option maxHeartbeats 800000 in
theorem szT_any (v : Value) (t : Tab) (w : World) (hv : TbR w w.heap.size v t) (hn : tabSize t ≤ 1048576) :
    Calls Try.prog 22 #[v, .int .i64 1048576] w fun e w' => e = .returned (.int .i64 (1048576 - t.routes.length - t.hops.length)) ∧ Below w.heap.size w w' := by
  unfold tabSize at hn
  obtain ⟨v1, v2, rfl, h1, h2⟩ := hv
  have hb1 := below1 w (.cells #[v1, v2] 25)
  go_enter Try.func22, Try.ntmps22
  go_wp2_with fail
  refine (sz_any v1 t.routes _ (h1.up hb1) (by omega)).mono ?_
  rintro e w1 ⟨rfl, rfl⟩
  go_wp2_with fail
  refine (szI_any v2 t.hops _ _ (h2.up hb1) (by omega) (by omega)).mono ?_
  rintro e w2 ⟨rfl, rfl⟩
  go_wp2
  go_ret
  exact ⟨rfl, hb1⟩
theorem szT_over (v : Value) (t : Tab) (w : World) (hv : TbR w w.heap.size v t) (hn : 1048576 < tabSize t) (hm : t.routes.length ≤ 9223372036854775807 ∧ t.hops.length ≤ 9223372036854775807) :
    Calls Try.prog 22 #[v, .int .i64 1048576] w fun e w' => e = .returned (.int .i64 (-1)) ∧ Below w.heap.size w w' := by
  unfold tabSize at hn
  obtain ⟨hm1, hm2⟩ := hm
  obtain ⟨v1, v2, rfl, h1, h2⟩ := hv
  have hb1 := below1 w (.cells #[v1, v2] 25)
  by_cases hr : t.routes.length ≤ 1048576
  · go_enter Try.func22, Try.ntmps22
    go_wp2_with fail
    refine (sz_any v1 t.routes _ (h1.up hb1) hr).mono ?_
    rintro e w1 ⟨rfl, rfl⟩
    go_wp2_with fail
    refine (szI_over v2 t.hops _ _ (h2.up hb1) (by omega) ⟨by omega, by omega⟩ hm2).mono ?_
    rintro e w2 ⟨rfl, rfl⟩
    go_wp2
    go_ret
    exact ⟨rfl, hb1⟩
  · go_enter Try.func22, Try.ntmps22
    go_wp2_with fail
    refine (sz_over v1 t.routes _ (h1.up hb1) (by omega) hm1).mono ?_
    rintro e w1 ⟨rfl, rfl⟩
    go_wp2
    go_ret
    exact ⟨rfl, hb1⟩

def tabEq (t u : Tab) : Prop := t.routes = u.routes ∧ t.hops = u.hops
theorem tab_ext {t u : Tab} (h : tabEq t u) : t = u := by
  obtain ⟨a, b⟩ := t
  obtain ⟨c, d⟩ := u
  obtain ⟨h1, h2⟩ := h
  simp only at h1 h2
  rw [h1, h2]
set_option maxHeartbeats 800000 in
theorem eqT_any (v v' : Value) (t u : Tab) (w : World) (hv : TbR w w.heap.size v t) (hv' : TbR w w.heap.size v' u) (hn : t.routes.length ≤ 1048576 ∧ t.hops.length ≤ 1048576) (hn' : u.routes.length ≤ 1048576 ∧ u.hops.length ≤ 1048576) :
    Calls Try.prog 26 #[v, v'] w fun e w' => e = .returned (.bool (eqB t u)) ∧ Below w.heap.size w w' := by
  obtain ⟨v1, v2, rfl, h1, h2⟩ := hv
  obtain ⟨x1, x2, rfl, y1, y2⟩ := hv'
  obtain ⟨wb, hwb⟩ : ∃ wb, wb = (w.alloc (Obj.cells #[v1, v2] 30)).alloc (Obj.cells #[x1, x2] 30) := ⟨_, rfl⟩
  have hbw : Below w.heap.size w wb := by rw [hwb]; exact below2 _ _ _
  have BA : Blk wb w.heap.size 30 #[v1, v2] := by rw [hwb]; exact (Blk.new _ _ _).alloc _
  have BB : Blk wb (w.heap.size + 1) 30 #[x1, x2] := by
    have h := Blk.new (w.alloc (Obj.cells #[v1, v2] 30)) 30 #[x1, x2]
    rw [hwb]; simpa using h
  go_enter Try.func26, Try.ntmps26
  go_wp2_with fail
  rw [← hwb]
  clear hwb
  refine (eqS_any v1 x1 t.routes u.routes _ (h1.up hbw) (y1.up hbw) hn.1 hn'.1).mono ?_
  rintro e w1 ⟨rfl, hb1⟩
  have A1 := BA.up hb1
  have B1 := BB.up hb1
  have a0 := A1.cell 1
  have b0 := B1.cell 1
  have hb01 := hbw.trans (hb1.mono hbw.size)
  clear hb1 hbw BA BB A1 B1
  by_cases hr : t.routes = u.routes
  · rw [eqB_yes hr]
    have HR := hide hr
    clear hr
    go_wp2_with fail
    refine (eqI_any v2 x2 t.hops u.hops _ (h2.up hb01) (y2.up hb01) hn.2 hn'.2).mono ?_
    rintro e w2 ⟨rfl, hb2⟩
    have hb02 := hb01.trans (hb2.mono hb01.size)
    by_cases hh : t.hops = u.hops
    · rw [eqB_yes hh]
      have HH := hide hh
      clear hh
      go_wp2
      go_ret
      exact ⟨ret_bool (eqB_yes (tab_ext ⟨HR.out, HH.out⟩)).symm, hb02⟩
    · rw [eqB_no hh]
      have HH := hide hh
      clear hh
      go_wp2
      go_ret
      exact ⟨ret_bool (eqB_no fun h => HH.out (by rw [h])).symm, hb02⟩
  · rw [eqB_no hr]
    have HR := hide hr
    clear hr
    go_wp2
    go_ret
    exact ⟨ret_bool (eqB_no fun h => HR.out (by rw [h])).symm, hb01⟩
end Go.Proofs.Ytlkchocjldllgaa
