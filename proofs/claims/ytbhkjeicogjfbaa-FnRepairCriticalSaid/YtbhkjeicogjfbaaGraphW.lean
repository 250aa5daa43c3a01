/- hasNode, hasLink; l1Node, l1Index of the reference. Conditions: at most 1048576 links. -/
import Derived.Test.YtbhkjeicogjfbaaGv
namespace Go.Proofs.Ytbhkjeicogjfbaa
open Go.RowKit

def Ix (g : Gr) (k : Int) : Prop := 0 ≤ k ∧ k < g.ls.length
set_option maxHeartbeats 800000 in
theorem hasNode_any (v : Value) (g : Gr) (x : Int) (w : World) (hv : GrR w w.heap.size v g) (hn : g.ls.length ≤ 1048576) :
    Calls Try.prog 54 #[v, .int .i64 x] w fun e w' => e = .returned (.bool (tb (GV g ∧ Nd g x))) ∧ Below w.heap.size w w' := by
  have hvv := hv
  obtain ⟨A, cap, rfl, hc, hr⟩ := hv.form
  obtain ⟨wb, hwb⟩ : ∃ wb, wb = w.alloc (Obj.cells #[.int .i64 g.n, .slice A g.ls.length cap] 25) := ⟨_, rfl⟩
  have hbw : Below w.heap.size w wb := by rw [hwb]; exact below1 _ _
  have HB : Hid (Blk wb w.heap.size 25 #[.int .i64 g.n, .slice A g.ls.length cap]) := hide (by rw [hwb]; exact Blk.new _ _ _)
  go_enter Try.func54, Try.ntmps54
  go_wp2_with fail
  rw [← hwb]
  clear hwb
  refine (graphValid_any _ g _ (hvv.up hbw) hn).mono ?_
  rintro e w1 ⟨rfl, hb1⟩
  have HB1 := hide (HB.out.up hb1)
  have hb01 := hbw.trans (hb1.mono hbw.size)
  clear HB hbw hb1 hvv hv
  by_cases hV : GV g
  · rw [tb_yes hV]
    have c0 := HB1.out.cell 0
    obtain ⟨hn1, hn2⟩ := hV.n
    have HV := hide hV
    clear hV
    go_wp2_with fail
    refine (within_any _ _ _ _).mono ?_
    rintro e wx ⟨rfl, rfl⟩
    go_wp2
    go_ret
    exact ⟨ret_bool (tb_iff ⟨fun h => ⟨HV.out, h.1, by omega⟩, fun h => ⟨h.2.1, by have := h.2.2; omega⟩⟩), hb01⟩
  · rw [tb_no hV]
    have HV := hide hV
    clear hV
    go_wp2
    go_ret
    exact ⟨ret_bool (tb_no fun h => HV.out h.1).symm, hb01⟩
set_option maxHeartbeats 800000 in
theorem hasLink_any (v : Value) (g : Gr) (x : Int) (w : World) (hv : GrR w w.heap.size v g) (hn : g.ls.length ≤ 1048576) :
    Calls Try.prog 55 #[v, .int .i64 x] w fun e w' => e = .returned (.bool (tb (GV g ∧ Ix g x))) ∧ Below w.heap.size w w' := by
  have hvv := hv
  obtain ⟨A, cap, rfl, hc, hr⟩ := hv.form
  obtain ⟨wb, hwb⟩ : ∃ wb, wb = w.alloc (Obj.cells #[.int .i64 g.n, .slice A g.ls.length cap] 25) := ⟨_, rfl⟩
  have hbw : Below w.heap.size w wb := by rw [hwb]; exact below1 _ _
  have HB : Hid (Blk wb w.heap.size 25 #[.int .i64 g.n, .slice A g.ls.length cap]) := hide (by rw [hwb]; exact Blk.new _ _ _)
  go_enter Try.func55, Try.ntmps55
  go_wp2_with fail
  rw [← hwb]
  clear hwb
  refine (graphValid_any _ g _ (hvv.up hbw) hn).mono ?_
  rintro e w1 ⟨rfl, hb1⟩
  have HB1 := hide (HB.out.up hb1)
  have hb01 := hbw.trans (hb1.mono hbw.size)
  clear HB hbw hb1 hvv hv
  by_cases hV : GV g
  · rw [tb_yes hV]
    have c1 := HB1.out.cell 1
    have HV := hide hV
    clear hV
    go_wp2_with fail
    refine (within_any _ _ _ _).mono ?_
    rintro e wx ⟨rfl, rfl⟩
    go_wp2
    go_ret
    exact ⟨ret_bool (tb_iff ⟨fun h => ⟨HV.out, h.1, by omega⟩, fun h => ⟨h.2.1, by have := h.2.2; omega⟩⟩), hb01⟩
  · rw [tb_no hV]
    have HV := hide hV
    clear hV
    go_wp2
    go_ret
    exact ⟨ret_bool (tb_no fun h => HV.out h.1).symm, hb01⟩
set_option maxHeartbeats 800000 in
theorem l1Index_any (v : Value) (g : Gr) (x : Int) (w : World) (hv : GrR w w.heap.size v g) (hn : g.ls.length ≤ 1048576) :
    Calls Try.prog 96 #[v, .int .i64 x] w fun e w' => e = .returned (.bool (tb (GV g ∧ Ix g x))) ∧ Below w.heap.size w w' := by
  have hvv := hv
  obtain ⟨A, cap, rfl, hc, hr⟩ := hv.form
  obtain ⟨wb, hwb⟩ : ∃ wb, wb = w.alloc (Obj.cells #[.int .i64 g.n, .slice A g.ls.length cap] 25) := ⟨_, rfl⟩
  have hbw : Below w.heap.size w wb := by rw [hwb]; exact below1 _ _
  have HB : Hid (Blk wb w.heap.size 25 #[.int .i64 g.n, .slice A g.ls.length cap]) := hide (by rw [hwb]; exact Blk.new _ _ _)
  go_enter Try.func96, Try.ntmps96
  go_wp2_with fail
  rw [← hwb]
  clear hwb
  refine (specValid_any _ g _ (hvv.up hbw) hn).mono ?_
  rintro e w1 ⟨rfl, hb1⟩
  have HB1 := hide (HB.out.up hb1)
  have hb01 := hbw.trans (hb1.mono hbw.size)
  clear HB hbw hb1 hvv hv
  by_cases hV : GV g
  · rw [tb_yes hV]
    have c1 := HB1.out.cell 1
    have HV := hide hV
    clear hV
    go_wp2_with fail
    refine (l6In_any _ _ _ _).mono ?_
    rintro e wx ⟨rfl, rfl⟩
    go_wp2
    go_ret
    exact ⟨ret_bool (tb_iff ⟨fun h => ⟨HV.out, h.1, by omega⟩, fun h => ⟨h.2.1, by have := h.2.2; omega⟩⟩), hb01⟩
  · rw [tb_no hV]
    have HV := hide hV
    clear hV
    go_wp2
    go_ret
    exact ⟨ret_bool (tb_no fun h => HV.out h.1).symm, hb01⟩
set_option maxHeartbeats 800000 in
theorem l1Node_any (v : Value) (g : Gr) (x : Int) (w : World) (hv : GrR w w.heap.size v g) (hg : GV g) :
    Calls Try.prog 97 #[v, .int .i64 x] w fun e w' => e = .returned (.bool (tb (Nd g x))) ∧ Below w.heap.size w w' := by
  have hvv := hv
  obtain ⟨A, cap, rfl, hc, hr⟩ := hv.form
  obtain ⟨wb, hwb⟩ : ∃ wb, wb = w.alloc (Obj.cells #[.int .i64 g.n, .slice A g.ls.length cap] 25) := ⟨_, rfl⟩
  have hbw : Below w.heap.size w wb := by rw [hwb]; exact below1 _ _
  have HB : Hid (Blk wb w.heap.size 25 #[.int .i64 g.n, .slice A g.ls.length cap]) := hide (by rw [hwb]; exact Blk.new _ _ _)
  obtain ⟨hn1, hn2⟩ := hg.n
  have c0 := HB.out.cell 0
  clear hvv hv hg
  go_enter Try.func97, Try.ntmps97
  go_upto_region 1 with fail
  rw [← hwb]
  clear hwb
  go_wp2_with fail
  refine (l6In_any _ _ _ _).mono ?_
  rintro e wx ⟨rfl, rfl⟩
  go_wp2
  go_ret
  exact ⟨ret_bool (tb_iff ⟨fun h => ⟨h.1, by omega⟩, fun h => ⟨h.1, by have := h.2; omega⟩⟩), hbw⟩
end Go.Proofs.Ytbhkjeicogjfbaa
