/- The laws FnExactTableValid, FnExactTableFind, FnExactTableHop, walked: each returns true for every table. Conditions: none. -/
import Derived.Test.YtlkchocjldllgaaTabN
import Derived.Test.YtlkchocjldllgaaTabG
import Derived.Deep.RegionHeld3
namespace Go.Proofs.Ytlkchocjldllgaa
open Go.RowKit

set_option maxRecDepth 100000 in
set_option maxHeartbeats 800000 in
theorem lawExactTableFind (v : Value) (t : Tab) (a : Int) (w : World) (hv : TbR w w.heap.size v t) (hm : t.routes.length ≤ 9223372036854775807 ∧ t.hops.length ≤ 9223372036854775807) :
    Calls Try.prog 4 #[v, .int .i64 a] w fun e w' => e = .returned (.bool true) ∧ Below w.heap.size w w' := by
  have hvv := hv
  obtain ⟨v1, v2, rfl, h1, h2⟩ := hv
  clear h1 h2
  have hb00 := below1 w (.cells #[v1, v2] 25)
  have HB0 := hide (Blk.new w 25 #[v1, v2])
  by_cases hn : tabSize t ≤ 1048576
  · have hn2 : t.routes.length ≤ 1048576 ∧ t.hops.length ≤ 1048576 := by unfold tabSize at hn; omega
    have hsz : (0 : Int) ≤ 1048576 - t.routes.length - t.hops.length := by unfold tabSize at hn; omega
    go_enter Try.func4, Try.ntmps4
    go_wp2_with fail
    refine (szT_any _ t _ (hvv.up hb00) hn).mono ?_
    rintro e w1 ⟨rfl, hb1⟩
    have hb01 := hb00.trans (hb1.mono hb00.size)
    have HB1 := hide (HB0.out.up hb1)
    have cA := HB1.out.cell 0
    have cB := HB1.out.cell 1
    clear HB0
    go_wp2_with fail
    refine (toT_any _ t _ (hvv.up hb01) hn2).mono ?_
    rintro e w2 ⟨x, rfl, hO1, hb2⟩
    clear cA cB
    have hb02 := hb01.trans (hb2.mono hb01.size)
    have HB2 := hide (HB1.out.up hb2)
    have cA := HB2.out.cell 0
    have cB := HB2.out.cell 1
    clear HB1
    go_wp2_with fail
    refine (specFind_any x t a _ hO1.tbr hn2).mono ?_
    rintro e w3 ⟨b, rfl, hF, hb3⟩
    clear cA cB
    have hb03 := hb02.trans (hb3.mono hb02.size)
    have HB3 := hide (HB2.out.up hb3)
    have cA := HB3.out.cell 0
    have cB := HB3.out.cell 1
    clear HB2
    have HF := hide hF
    clear hF
    go_wp2_with fail
    refine (toT_any _ t _ (hvv.up hb03) hn2).mono ?_
    rintro e w4 ⟨y, rfl, hO4, hb4⟩
    clear cA cB
    have hb04 := hb03.trans (hb4.mono hb03.size)
    have HB4 := hide (HB3.out.up hb4)
    have cA := HB4.out.cell 0
    have cB := HB4.out.cell 1
    clear HB3
    have hy4 := hO4.tbr
    obtain ⟨y1, y2, rfl, hy1, hy2, _⟩ := hO4
    obtain ⟨Ax, capx, rfl, _, _⟩ := hy1.slr rc_len
    obtain ⟨Ay, capy, rfl, _, _⟩ := hy2.slr ic_len
    clear hy1 hy2
    have hb5 := below1 w4 (.cells #[.slice Ax t.routes.length capx, .slice Ay t.hops.length capy] 30)
    have HX5 := hide (Blk.new w4 30 #[.slice Ax t.routes.length capx, .slice Ay t.hops.length capy])
    have hy5 := hy4.up hb5
    clear cA cB
    have hb05 := hb04.trans (hb5.mono hb04.size)
    have HB5 := hide (HB4.out.up hb5)
    have cA := HB5.out.cell 0
    have cB := HB5.out.cell 1
    clear HB4
    have cX := HX5.out.cell 0
    have cY := HX5.out.cell 1
    go_wp2_with fail
    refine (find_any _ t a _ hy5 hn2).mono ?_
    rintro e w6 ⟨b', rfl, hF', hb6⟩
    obtain rfl := HF.out.uniq hF'
    clear HF hF'
    have hne : (b != b) = false := by simp
    clear cA cB cX cY
    have hb06 := hb05.trans (hb6.mono hb05.size)
    have HB6 := hide (HB5.out.up hb6)
    have cA := HB6.out.cell 0
    have cB := HB6.out.cell 1
    clear HB5
    have HX6 := hide (HX5.out.up hb6)
    have cX := HX6.out.cell 0
    have cY := HX6.out.cell 1
    clear HX5
    have hy6 := hy5.up hb6
    go_wp2_with fail
    go_region_held3 (fun w' => w'.cell? ⟨w.heap.size, 0, none⟩ = some v1 ∧ w'.cell? ⟨w.heap.size, 1, none⟩ = some v2 ∧ w'.cell? ⟨w4.heap.size, 0, none⟩ = some (.slice Ax t.routes.length capx) ∧ w'.cell? ⟨w4.heap.size, 1, none⟩ = some (.slice Ay t.hops.length capy)) (first | go_keep | exact ⟨cA7, cB7, cX7, cY7⟩) (first | (go_at_call 24; refine (toT_any _ t _ (hvv.up hb06.drew) hn2).mono ?_; rintro e w7 ⟨z, rfl, hO7, hb7⟩; have cA7 := (hb7.cell (World.block_lt_of_cell? w6.drew _ cA)).trans cA; have cB7 := (hb7.cell (World.block_lt_of_cell? w6.drew _ cB)).trans cB; have cX7 := (hb7.cell (World.block_lt_of_cell? w6.drew _ cX)).trans cX; have cY7 := (hb7.cell (World.block_lt_of_cell? w6.drew _ cY)).trans cY) | (go_at_call 26; refine (eqT_any _ z t t _ ((hy6.up ((Below.refl w6.heap.size w6).drew)).up hb7) hO7.tbr hn2 hn2).mono ?_; rintro e w8 ⟨rfl, hb8⟩; rw [eqB_self]; have cA7 := (hb8.cell (World.block_lt_of_cell? w7 _ cA7)).trans cA7; have cB7 := (hb8.cell (World.block_lt_of_cell? w7 _ cB7)).trans cB7; have cX7 := (hb8.cell (World.block_lt_of_cell? w7 _ cX7)).trans cX7; have cY7 := (hb8.cell (World.block_lt_of_cell? w7 _ cY7)).trans cY7))
    go_wp2
    go_ret
    have hb07 := hb06.drew.trans (hb7.mono hb06.drew.size)
    exact ⟨rfl, hb07.trans (hb8.mono hb07.size)⟩
  · go_enter Try.func4, Try.ntmps4
    go_wp2_with fail
    refine (szT_over _ t _ (hvv.up hb00) (by omega) hm).mono ?_
    rintro e w1 ⟨rfl, hb1⟩
    go_wp2
    go_ret
    exact ⟨rfl, hb00.trans (hb1.mono hb00.size)⟩
set_option maxRecDepth 100000 in
set_option maxHeartbeats 800000 in
theorem lawExactTableHop (v : Value) (t : Tab) (a : Int) (w : World) (hv : TbR w w.heap.size v t) (hm : t.routes.length ≤ 9223372036854775807 ∧ t.hops.length ≤ 9223372036854775807) :
    Calls Try.prog 7 #[v, .int .i64 a] w fun e w' => e = .returned (.bool true) ∧ Below w.heap.size w w' := by
  have hvv := hv
  obtain ⟨v1, v2, rfl, h1, h2⟩ := hv
  clear h1 h2
  have hb00 := below1 w (.cells #[v1, v2] 25)
  have HB0 := hide (Blk.new w 25 #[v1, v2])
  by_cases hn : tabSize t ≤ 1048576
  · have hn2 : t.routes.length ≤ 1048576 ∧ t.hops.length ≤ 1048576 := by unfold tabSize at hn; omega
    have hsz : (0 : Int) ≤ 1048576 - t.routes.length - t.hops.length := by unfold tabSize at hn; omega
    go_enter Try.func7, Try.ntmps7
    go_wp2_with fail
    refine (szT_any _ t _ (hvv.up hb00) hn).mono ?_
    rintro e w1 ⟨rfl, hb1⟩
    have hb01 := hb00.trans (hb1.mono hb00.size)
    have HB1 := hide (HB0.out.up hb1)
    have cA := HB1.out.cell 0
    have cB := HB1.out.cell 1
    clear HB0
    go_wp2_with fail
    refine (toT_any _ t _ (hvv.up hb01) hn2).mono ?_
    rintro e w2 ⟨x, rfl, hO1, hb2⟩
    clear cA cB
    have hb02 := hb01.trans (hb2.mono hb01.size)
    have HB2 := hide (HB1.out.up hb2)
    have cA := HB2.out.cell 0
    have cB := HB2.out.cell 1
    clear HB1
    go_wp2_with fail
    refine (specHop_any x t a _ hO1.tbr hn2).mono ?_
    rintro e w3 ⟨b, rfl, hF, hb3⟩
    clear cA cB
    have hb03 := hb02.trans (hb3.mono hb02.size)
    have HB3 := hide (HB2.out.up hb3)
    have cA := HB3.out.cell 0
    have cB := HB3.out.cell 1
    clear HB2
    have HF := hide hF
    clear hF
    go_wp2_with fail
    refine (toT_any _ t _ (hvv.up hb03) hn2).mono ?_
    rintro e w4 ⟨y, rfl, hO4, hb4⟩
    clear cA cB
    have hb04 := hb03.trans (hb4.mono hb03.size)
    have HB4 := hide (HB3.out.up hb4)
    have cA := HB4.out.cell 0
    have cB := HB4.out.cell 1
    clear HB3
    have hy4 := hO4.tbr
    obtain ⟨y1, y2, rfl, hy1, hy2, _⟩ := hO4
    obtain ⟨Ax, capx, rfl, _, _⟩ := hy1.slr rc_len
    obtain ⟨Ay, capy, rfl, _, _⟩ := hy2.slr ic_len
    clear hy1 hy2
    have hb5 := below1 w4 (.cells #[.slice Ax t.routes.length capx, .slice Ay t.hops.length capy] 30)
    have HX5 := hide (Blk.new w4 30 #[.slice Ax t.routes.length capx, .slice Ay t.hops.length capy])
    have hy5 := hy4.up hb5
    clear cA cB
    have hb05 := hb04.trans (hb5.mono hb04.size)
    have HB5 := hide (HB4.out.up hb5)
    have cA := HB5.out.cell 0
    have cB := HB5.out.cell 1
    clear HB4
    have cX := HX5.out.cell 0
    have cY := HX5.out.cell 1
    go_wp2_with fail
    refine (hop_any _ t a _ hy5 hn2).mono ?_
    rintro e w6 ⟨b', rfl, hF', hb6⟩
    obtain rfl := HF.out.uniq hF'
    clear HF hF'
    have hne : (b != b) = false := by simp
    clear cA cB cX cY
    have hb06 := hb05.trans (hb6.mono hb05.size)
    have HB6 := hide (HB5.out.up hb6)
    have cA := HB6.out.cell 0
    have cB := HB6.out.cell 1
    clear HB5
    have HX6 := hide (HX5.out.up hb6)
    have cX := HX6.out.cell 0
    have cY := HX6.out.cell 1
    clear HX5
    have hy6 := hy5.up hb6
    go_wp2_with fail
    go_region_held3 (fun w' => w'.cell? ⟨w.heap.size, 0, none⟩ = some v1 ∧ w'.cell? ⟨w.heap.size, 1, none⟩ = some v2 ∧ w'.cell? ⟨w4.heap.size, 0, none⟩ = some (.slice Ax t.routes.length capx) ∧ w'.cell? ⟨w4.heap.size, 1, none⟩ = some (.slice Ay t.hops.length capy)) (first | go_keep | exact ⟨cA7, cB7, cX7, cY7⟩) (first | (go_at_call 24; refine (toT_any _ t _ (hvv.up hb06.drew) hn2).mono ?_; rintro e w7 ⟨z, rfl, hO7, hb7⟩; have cA7 := (hb7.cell (World.block_lt_of_cell? w6.drew _ cA)).trans cA; have cB7 := (hb7.cell (World.block_lt_of_cell? w6.drew _ cB)).trans cB; have cX7 := (hb7.cell (World.block_lt_of_cell? w6.drew _ cX)).trans cX; have cY7 := (hb7.cell (World.block_lt_of_cell? w6.drew _ cY)).trans cY) | (go_at_call 26; refine (eqT_any _ z t t _ ((hy6.up ((Below.refl w6.heap.size w6).drew)).up hb7) hO7.tbr hn2 hn2).mono ?_; rintro e w8 ⟨rfl, hb8⟩; rw [eqB_self]; have cA7 := (hb8.cell (World.block_lt_of_cell? w7 _ cA7)).trans cA7; have cB7 := (hb8.cell (World.block_lt_of_cell? w7 _ cB7)).trans cB7; have cX7 := (hb8.cell (World.block_lt_of_cell? w7 _ cX7)).trans cX7; have cY7 := (hb8.cell (World.block_lt_of_cell? w7 _ cY7)).trans cY7))
    go_wp2
    go_ret
    have hb07 := hb06.drew.trans (hb7.mono hb06.drew.size)
    exact ⟨rfl, hb07.trans (hb8.mono hb07.size)⟩
  · go_enter Try.func7, Try.ntmps7
    go_wp2_with fail
    refine (szT_over _ t _ (hvv.up hb00) (by omega) hm).mono ?_
    rintro e w1 ⟨rfl, hb1⟩
    go_wp2
    go_ret
    exact ⟨rfl, hb00.trans (hb1.mono hb00.size)⟩
set_option maxRecDepth 100000 in
set_option maxHeartbeats 800000 in
theorem lawExactTableValid (v : Value) (t : Tab) (w : World) (hv : TbR w w.heap.size v t) (hm : t.routes.length ≤ 9223372036854775807 ∧ t.hops.length ≤ 9223372036854775807) :
    Calls Try.prog 3 #[v] w fun e w' => e = .returned (.bool true) ∧ Below w.heap.size w w' := by
  obtain ⟨b, hb⟩ : ∃ b, b = tb (TV t) := ⟨_, rfl⟩
  have HB := hide hb
  clear hb
  have hvv := hv
  obtain ⟨v1, v2, rfl, h1, h2⟩ := hv
  clear h1 h2
  have hb00 := below1 w (.cells #[v1, v2] 25)
  have HB0 := hide (Blk.new w 25 #[v1, v2])
  by_cases hn : tabSize t ≤ 1048576
  · have hn2 : t.routes.length ≤ 1048576 ∧ t.hops.length ≤ 1048576 := by unfold tabSize at hn; omega
    have hsz : (0 : Int) ≤ 1048576 - t.routes.length - t.hops.length := by unfold tabSize at hn; omega
    go_enter Try.func3, Try.ntmps3
    go_wp2_with fail
    refine (szT_any _ t _ (hvv.up hb00) hn).mono ?_
    rintro e w1 ⟨rfl, hb1⟩
    have hb01 := hb00.trans (hb1.mono hb00.size)
    have HB1 := hide (HB0.out.up hb1)
    have cA := HB1.out.cell 0
    have cB := HB1.out.cell 1
    clear HB0
    go_wp2_with fail
    refine (toT_any _ t _ (hvv.up hb01) hn2).mono ?_
    rintro e w2 ⟨x, rfl, hO1, hb2⟩
    clear cA cB
    have hb02 := hb01.trans (hb2.mono hb01.size)
    have HB2 := hide (HB1.out.up hb2)
    have cA := HB2.out.cell 0
    have cB := HB2.out.cell 1
    clear HB1
    go_wp2_with fail
    refine (specTableValid_any x t _ hO1.tbr hn2).mono ?_
    rintro e w3 ⟨rfl, hb3⟩
    rw [← HB.out]
    clear cA cB
    have hb03 := hb02.trans (hb3.mono hb02.size)
    have HB3 := hide (HB2.out.up hb3)
    have cA := HB3.out.cell 0
    have cB := HB3.out.cell 1
    clear HB2
    go_wp2_with fail
    refine (toT_any _ t _ (hvv.up hb03) hn2).mono ?_
    rintro e w4 ⟨y, rfl, hO4, hb4⟩
    clear cA cB
    have hb04 := hb03.trans (hb4.mono hb03.size)
    have HB4 := hide (HB3.out.up hb4)
    have cA := HB4.out.cell 0
    have cB := HB4.out.cell 1
    clear HB3
    have hy4 := hO4.tbr
    obtain ⟨y1, y2, rfl, hy1, hy2, _⟩ := hO4
    obtain ⟨Ax, capx, rfl, _, _⟩ := hy1.slr rc_len
    obtain ⟨Ay, capy, rfl, _, _⟩ := hy2.slr ic_len
    clear hy1 hy2
    have hb5 := below1 w4 (.cells #[.slice Ax t.routes.length capx, .slice Ay t.hops.length capy] 30)
    have HX5 := hide (Blk.new w4 30 #[.slice Ax t.routes.length capx, .slice Ay t.hops.length capy])
    have hy5 := hy4.up hb5
    clear cA cB
    have hb05 := hb04.trans (hb5.mono hb04.size)
    have HB5 := hide (HB4.out.up hb5)
    have cA := HB5.out.cell 0
    have cB := HB5.out.cell 1
    clear HB4
    have cX := HX5.out.cell 0
    have cY := HX5.out.cell 1
    go_wp2_with fail
    refine (tableValid_any _ t _ hy5 hn2).mono ?_
    rintro e w6 ⟨rfl, hb6⟩
    rw [← HB.out]
    have hne : (b != b) = false := by simp
    clear cA cB cX cY
    have hb06 := hb05.trans (hb6.mono hb05.size)
    have HB6 := hide (HB5.out.up hb6)
    have cA := HB6.out.cell 0
    have cB := HB6.out.cell 1
    clear HB5
    have HX6 := hide (HX5.out.up hb6)
    have cX := HX6.out.cell 0
    have cY := HX6.out.cell 1
    clear HX5
    have hy6 := hy5.up hb6
    go_wp2_with fail
    go_region_held3 (fun w' => w'.cell? ⟨w.heap.size, 0, none⟩ = some v1 ∧ w'.cell? ⟨w.heap.size, 1, none⟩ = some v2 ∧ w'.cell? ⟨w4.heap.size, 0, none⟩ = some (.slice Ax t.routes.length capx) ∧ w'.cell? ⟨w4.heap.size, 1, none⟩ = some (.slice Ay t.hops.length capy)) (first | go_keep | exact ⟨cA7, cB7, cX7, cY7⟩) (first | (go_at_call 24; refine (toT_any _ t _ (hvv.up hb06.drew) hn2).mono ?_; rintro e w7 ⟨z, rfl, hO7, hb7⟩; have cA7 := (hb7.cell (World.block_lt_of_cell? w6.drew _ cA)).trans cA; have cB7 := (hb7.cell (World.block_lt_of_cell? w6.drew _ cB)).trans cB; have cX7 := (hb7.cell (World.block_lt_of_cell? w6.drew _ cX)).trans cX; have cY7 := (hb7.cell (World.block_lt_of_cell? w6.drew _ cY)).trans cY) | (go_at_call 26; refine (eqT_any _ z t t _ ((hy6.up ((Below.refl w6.heap.size w6).drew)).up hb7) hO7.tbr hn2 hn2).mono ?_; rintro e w8 ⟨rfl, hb8⟩; rw [eqB_self]; have cA7 := (hb8.cell (World.block_lt_of_cell? w7 _ cA7)).trans cA7; have cB7 := (hb8.cell (World.block_lt_of_cell? w7 _ cB7)).trans cB7; have cX7 := (hb8.cell (World.block_lt_of_cell? w7 _ cX7)).trans cX7; have cY7 := (hb8.cell (World.block_lt_of_cell? w7 _ cY7)).trans cY7))
    go_wp2
    go_ret
    have hb07 := hb06.drew.trans (hb7.mono hb06.drew.size)
    exact ⟨rfl, hb07.trans (hb8.mono hb07.size)⟩
  · go_enter Try.func3, Try.ntmps3
    go_wp2_with fail
    refine (szT_over _ t _ (hvv.up hb00) (by omega) hm).mono ?_
    rintro e w1 ⟨rfl, hb1⟩
    go_wp2
    go_ret
    exact ⟨rfl, hb00.trans (hb1.mono hb00.size)⟩
end Go.Proofs.Ytlkchocjldllgaa
